/-
  Words on slices of moves (RdV, flat); contracts of the laws' helpers toMove, toMoveS, szMove, szMoveS, eqMove, eqMoveS.
  Conditions: the slices read as lists of moves, of at most 2^20 elements.
-/
import Derived.Test.YtmplanlppjebnaaMvTxt
import Derived.BigQuiet
import Derived.Deep.RegionHeld3
namespace Go.Proofs.Ytmplanlppjebnaa
open Go.RowKit
set_option linter.unusedVariables false
attribute [local go_sem ↓] Go.wp_at_zero Go.wp_at_succ

/-- A move. -/
abbrev Mv := Int × ByteArray
/-- Its two cells. -/
def enc2 (p : Mv) : List Value := [.int .i64 p.1, .string p.2]
def flat (xs : List Mv) : List Value := xs.flatMap enc2
abbrev mvv (s : Int) (t : ByteArray) : Value := .agg #[.int .i64 s, .string t]
theorem flat_nil : flat [] = [] := rfl
theorem flat_cons (p : Mv) (xs : List Mv) : flat (p :: xs) = .int .i64 p.1 :: .string p.2 :: flat xs := rfl
theorem flat_len : ∀ xs : List Mv, (flat xs).length = xs.length * 2
  | [] => rfl
  | p :: xs => by rw [flat_cons]; simp only [List.length_cons]; rw [flat_len xs]; omega
theorem flat_append (xs ys : List Mv) : flat (xs ++ ys) = flat xs ++ flat ys := by simp [flat]
theorem flat_at : ∀ {xs : List Mv} {k : Nat} {p : Mv}, xs[k]? = some p → (flat xs)[k * 2]? = some (.int .i64 p.1) ∧ (flat xs)[k * 2 + 1]? = some (.string p.2)
  | [], k, p, h => by simp at h
  | q :: qs, 0, p, h => by simp at h; subst h; exact ⟨rfl, rfl⟩
  | q :: qs, k + 1, p, h => by
    simp at h
    have := flat_at h
    rw [flat_cons, show (k + 1) * 2 = k * 2 + 1 + 1 by omega]
    simpa using this
theorem flat_set : ∀ {xs : List Mv} {k : Nat} (p : Mv), ((flat xs).set (k * 2) (.int .i64 p.1)).set (k * 2 + 1) (.string p.2) = flat (xs.set k p)
  | [], k, p => by simp [flat]
  | q :: qs, 0, p => rfl
  | q :: qs, k + 1, p => by
    have := flat_set (xs := qs) (k := k) p
    rw [flat_cons, List.set_cons_succ, flat_cons, show (k + 1) * 2 = k * 2 + 1 + 1 by omega]
    simp only [List.set_cons_succ]
    rw [this]
theorem flat_one (p : Mv) : ∀ u ∈ flat [p], u.oneCell' = true := by
  intro u hu
  simp [flat, enc2] at hu
  rcases hu with rfl | rfl <;> rfl
/-- The slice value '.slice A n c' holds the moves xs. -/
def RdV (w : World) (A : Option Addr) (n : Nat) (xs : List Mv) : Prop :=
  xs.length = n ∧ (0 < n → ∃ b off, A = some ⟨b, off, none⟩ ∧ ∀ (k : Nat) (p : Mv), xs[k]? = some p → w.cell? ⟨b, off + k * 2, none⟩ = some (.int .i64 p.1) ∧ w.cell? ⟨b, off + k * 2 + 1, none⟩ = some (.string p.2))
section
variable {w w' : World} {n : Nat} {A : Option Addr} {xs : List Mv}
theorem RdV.len (h : RdV w A n xs) : xs.length = n := h.1
theorem RdV.none_ (w : World) (A : Option Addr) : RdV w A 0 [] := ⟨rfl, fun h => absurd h (by omega)⟩
theorem RdV.at_ {k : Nat} (h : RdV w A n xs) (hk : k < n) : ∃ b off p, A = some ⟨b, off, none⟩ ∧ xs[k]? = some p ∧ w.cell? ⟨b, off + k * 2, none⟩ = some (.int .i64 p.1) ∧ w.cell? ⟨b, off + k * 2 + 1, none⟩ = some (.string p.2) := by
  obtain ⟨b, off, e, hc⟩ := h.2 (by omega)
  have hl : k < xs.length := by have := h.1; omega
  exact ⟨b, off, xs[k], e, List.getElem?_eq_getElem hl, hc k _ (List.getElem?_eq_getElem hl)⟩
theorem RdV.keep (h : RdV w A n xs) (hk : ∀ b off j u, 0 < n → A = some ⟨b, off, none⟩ → w.cell? ⟨b, j, none⟩ = some u → w'.cell? ⟨b, j, none⟩ = some u) : RdV w' A n xs :=
  ⟨h.1, fun hn => by
    obtain ⟨b, off, e, hc⟩ := h.2 hn
    exact ⟨b, off, e, fun k p hp => ⟨hk _ _ _ _ hn e (hc k p hp).1, hk _ _ _ _ hn e (hc k p hp).2⟩⟩⟩
theorem RdV.below (h : RdV w A n xs) (hb : Below w.heap.size w w') : RdV w' A n xs :=
  h.keep fun _ _ _ _ _ _ hp => (hb.cell (block_lt_of_cell hp)).trans hp
theorem RdV.grown {row : Option Nat} (h : RdV w A n xs) (hg : w.grownBy w' row) (hr : 0 < n → ∀ a, A = some a → some a.block ≠ row) : RdV w' A n xs :=
  h.keep fun b off j _ h0 e hq => hg.cell (a := ⟨b, j, none⟩) hq (show some b ≠ row from hr h0 _ e)
theorem RdV.drewN (h : RdV w A n xs) (k : Nat) : RdV (w.drewN k) A n xs := h
theorem RdV.of_own {base : Nat} {e : TypeId} {c : Nat} (h : w.ownsRow base e 2 (.slice A n c) n (flat xs)) : RdV w A n xs := by
  have hl : xs.length = n := by have := h.1; rw [flat_len] at this; omega
  refine ⟨hl, fun hn => ?_⟩
  have hform : ∃ g, A = some ⟨g, 0, none⟩ := by
    rcases h.2 with ⟨h', h0⟩ | ⟨g, cap, cur, h', _⟩
    · omega
    · simp only [Value.slice.injEq] at h'
      exact ⟨g, h'.1⟩
  obtain ⟨g, rfl⟩ := hform
  refine ⟨g, 0, rfl, fun k p hp => ?_⟩
  have hk : k < xs.length := (List.getElem?_eq_some_iff.1 hp).1
  rw [Nat.zero_add, h.cellAt (k * 2) (by omega), h.cellAt (k * 2 + 1) (by omega)]
  exact flat_at hp
end
/-- The moves of a slice, with the texts short. -/
def Short (xs : List Mv) : Prop := ∀ p ∈ xs, p.2.size ≤ maxLen
/-- The sum of the texts' lengths. -/
def lsum (xs : List Mv) : Nat := (xs.map fun p => p.2.size).sum
theorem lsum_snoc {xs : List Mv} {k : Nat} {p : Mv} (h : xs[k]? = some p) : lsum (xs.take (k + 1)) = lsum (xs.take k) + p.2.size := by
  rw [take_snoc h]; simp [lsum]
theorem lsum_take_le (xs : List Mv) (k : Nat) : lsum (xs.take k) ≤ lsum xs := by
  have : lsum xs = lsum (xs.take k) + lsum (xs.drop k) := by
    unfold lsum
    rw [← List.sum_append_nat, ← List.map_append, List.take_append_drop]
  omega
theorem mem_le_lsum : ∀ {xs : List Mv} {p : Mv}, p ∈ xs → p.2.size ≤ lsum xs
  | [], p, h => by simp at h
  | q :: qs, p, h => by
    have e : lsum (q :: qs) = q.2.size + lsum qs := by simp [lsum]
    rcases List.mem_cons.1 h with rfl | h
    · omega
    · have := mem_le_lsum h; omega
theorem Try.infoMove : (Try.prog.info? 28).map (fun i => (i.zero, i.size, i.bytes)) = some (some (.agg #[.int .i64 0, .string ⟨#[]⟩]), 2, 24) := by kernel_rfl
/-- A new row of moves as it is made. -/
theorem made_moves (n : Nat) : (madeCells #[.int .i64 0, .string ⟨#[]⟩] (n * 2)).toList = flat (List.replicate n (0, ⟨#[]⟩)) := by
  apply List.ext_getElem?
  intro j
  have hsz : (madeCells #[Value.int .i64 0, Value.string ⟨#[]⟩] (n * 2)).size = n * 2 := size_madeCells _ _
  by_cases hj : j < n * 2
  · have hr : (List.replicate n ((0, ⟨#[]⟩) : Mv))[j / 2]? = some (0, ⟨#[]⟩) := by rw [List.getElem?_replicate, if_pos (by omega)]
    obtain ⟨h0, h1⟩ := flat_at hr
    rw [Array.getElem?_toList, Array.getElem?_eq_getElem (by rw [hsz]; exact hj)]
    rcases (show j % 2 = 0 ∨ j % 2 = 1 by omega) with e | e
    · have ej : j / 2 * 2 = j := by omega
      rw [ej] at h0
      rw [h0]
      simp [madeCells, e]
    · have ej : j / 2 * 2 + 1 = j := by omega
      rw [ej] at h1
      rw [h1]
      simp [madeCells, e]
  · rw [List.getElem?_eq_none (by rw [Array.length_toList, hsz]; omega), List.getElem?_eq_none (by rw [flat_len, List.length_replicate]; omega)]
/-- A write of a whole element into a row of moves. -/
theorem own_put2 {w : World} {base : Nat} {e : TypeId} {g n c k : Nat} {xs : List Mv} (h : w.ownsRow base e 2 (.slice (some ⟨g, 0, none⟩) n c) n (flat xs)) (p : Mv) :
    ((w.setCell ⟨g, k * 2, none⟩ (.int .i64 p.1)).setCell ⟨g, k * 2 + 1, none⟩ (.string p.2)).ownsRow base e 2 (.slice (some ⟨g, 0, none⟩) n c) n (flat (xs.set k p)) := by
  have h1 := ((h.stored (k * 2) (.int .i64 p.1)).1.stored (k * 2 + 1) (.string p.2)).1
  rw [flat_set] at h1
  exact h1
theorem own_at2 {w : World} {base : Nat} {e : TypeId} {g n c k : Nat} {xs : List Mv} (h : w.ownsRow base e 2 (.slice (some ⟨g, 0, none⟩) n c) n (flat xs)) {p : Mv} (hp : xs[k]? = some p) :
    w.cell? ⟨g, k * 2, none⟩ = some (.int .i64 p.1) ∧ w.cell? ⟨g, k * 2 + 1, none⟩ = some (.string p.2) ∧ w.frozen? ⟨g, k * 2, none⟩ = false ∧ w.frozen? ⟨g, k * 2 + 1, none⟩ = false := by
  have hl : xs.length = n := by have := h.1; rw [flat_len] at this; omega
  have hk : k < xs.length := (List.getElem?_eq_some_iff.1 hp).1
  obtain ⟨h0, h1⟩ := flat_at hp
  exact ⟨by rw [h.cellAt (k * 2) (by omega)]; exact h0, by rw [h.cellAt (k * 2 + 1) (by omega)]; exact h1, h.frozenAt _, h.frozenAt _⟩
theorem gw2 (w : World) (g k : Nat) (u v : Value) : w.grownBy ((w.setCell ⟨g, k * 2, none⟩ u).setCell ⟨g, k * 2 + 1, none⟩ v) (some g) :=
  ⟨rfl, rfl, rfl, by simp, fun i _ hi => (heap_setCell_other _ ⟨g, k * 2 + 1, none⟩ i _ (fun e => hi (by rw [e]))).trans (heap_setCell_other _ ⟨g, k * 2, none⟩ i _ (fun e => hi (by rw [e])))⟩

set_option maxHeartbeats 1000000 in
theorem toMove_any (s : Int) (t : ByteArray) (w : World) :
    Calls Try.prog 34 #[mvv s t] w fun e w' => e = .returned (mvv s t) ∧ Below w.heap.size w w' := by
  go_enter Try.func34, Try.ntmps34
  go_wp2_with fail
  go_returns
  refine ⟨rfl, ?_⟩
  go_grown
set_option maxHeartbeats 4000000 in
theorem toMoveS_any (A : Option Addr) (n c : Nat) (xs : List Mv) (w : World) (hx : RdV w A n xs) (hn : n ≤ 1048576) :
    Calls Try.prog 15 #[.slice A n c] w fun e w' => e = .returned (.slice (some ⟨w.heap.size, 0, none⟩) n n) ∧ w'.ownsRow w.heap.size 28 2 (.slice (some ⟨w.heap.size, 0, none⟩) n n) n (flat xs) ∧ Below w.heap.size w w' := by
  have HX := Lib.hid hx
  have Hl := Lib.hid hx.len
  clear hx
  obtain ⟨i0, hi, hz0, hz1, hz2⟩ := info_parts Try.infoMove
  go_enter Try.func15, Try.ntmps15
  go_wp2_with (at_make; refine wpList_make_full _ rfl _ _ 23 rfl w.heap.size 28 i0 (.agg #[.int .i64 0, .string ⟨#[]⟩]) 2 Try.underlying23 hi hz0 hz1 _ _ _ _ n rfl rfl rfl rfl ?b2 ?b3 ?b4 ?_)
  case b2 => rw [hz2]; omega
  case b3 => unfold maxLen; omega
  case b4 => exact Nat.le_refl _
  clear hi hz0 hz1 hz2
  intro w1 hown hgrow
  have HO : Hid (w1.ownsRow w.heap.size 28 2 (.slice (some ⟨w.heap.size, 0, none⟩) n n) n (flat (xs.take 0 ++ List.replicate (n - 0) (0, ⟨#[]⟩)))) := by
    have h1 : w1.ownsRow w.heap.size 28 2 (.slice (some ⟨w.heap.size, 0, none⟩) n n) n (madeCells #[.int .i64 0, .string ⟨#[]⟩] (n * 2)).toList := hown
    rw [made_moves] at h1
    simpa [Hid] using h1
  have HB := Lib.hid ((Below.refl w.heap.size w).grown hgrow (Nat.le_refl _) (fun k h => by cases h))
  clear hown hgrow
  go_wp2_with fail
  go_loopw [4] (fun i wr => ∃ k : Nat, k ≤ n ∧ i = .int .i64 k ∧ Hid (wr.ownsRow w.heap.size 28 2 (.slice (some ⟨w.heap.size, 0, none⟩) n n) n (flat (xs.take k ++ List.replicate (n - k) (0, ⟨#[]⟩)))) ∧ Hid (Below w.heap.size w wr)) (fun i _ => n - (intOf i).toNat)
  case atStart => exact ⟨0, Nat.zero_le _, rfl, HO.out, HB.out⟩
  case round =>
    clear HO HB
    obtain ⟨k, hk, rfl, Ho, Hb⟩ := hrel
    by_cases hlt : k < n
    · obtain ⟨b, off, p, rfl, hpk, hd0, hd1⟩ := HX.out.at_ hlt
      have c0 : wr.cell? ⟨b, off + k * 2, none⟩ = some (.int .i64 p.1) := (Hb.out.cell (block_lt_of_cell hd0)).trans hd0
      have c1 : wr.cell? ⟨b, off + k * 2 + 1, none⟩ = some (.string p.2) := (Hb.out.cell (block_lt_of_cell hd1)).trans hd1
      have HP := Lib.hid hpk
      clear hd0 hd1 hpk
      go_wp2_with fail
      refine (toMove_any _ _ _).mono ?_
      rintro e w2 ⟨rfl, hb2⟩
      have HO2 := Lib.hid (own_belowAll Ho.out hb2)
      have HB2 := Lib.hid (below_seq Hb.out hb2)
      clear hb2 Ho Hb c0 c1
      have hrow : (xs.take k ++ List.replicate (n - k) ((0, ⟨#[]⟩) : Mv))[k]? = some (0, ⟨#[]⟩) := by
        have hlk : (xs.take k).length = k := by rw [List.length_take]; have := Hl.out; omega
        rw [List.getElem?_append_right (by omega), hlk, Nat.sub_self, List.getElem?_replicate, if_pos (by omega)]
      obtain ⟨s0, s1, f0, f1⟩ := own_at2 HO2.out hrow
      have HROW := Lib.hid hrow
      clear hrow
      go_wp2_with fail
      go_roundw
      case rel =>
        refine ⟨k + 1, by omega, by go_num, ?_, (HB2.out.setCell (Nat.le_refl _) _).setCell (Nat.le_refl _) _⟩
        have h1 := own_put2 (k := k) HO2.out p
        have e : (xs.take k ++ List.replicate (n - k) ((0, ⟨#[]⟩) : Mv)).set k p = xs.take (k + 1) ++ List.replicate (n - (k + 1)) (0, ⟨#[]⟩) := by
          have hlk : (xs.take k).length = k := by rw [List.length_take]; have := Hl.out; omega
          rw [List.set_append_right _ _ (by omega), hlk, Nat.sub_self, take_snoc HP.out, show n - k = (n - (k + 1)) + 1 by omega, List.replicate_succ, List.set_cons_zero, List.append_assoc]
          rfl
        rw [e] at h1
        exact h1
      case measure => simp [intOf]; omega
    · obtain rfl : k = n := by omega
      have HE : Hid (wr.ownsRow w.heap.size 28 2 (.slice (some ⟨w.heap.size, 0, none⟩) k k) k (flat xs)) := by
        have h1 := Ho.out
        rw [Nat.sub_self, List.replicate_zero, List.append_nil, List.take_of_length_le (by rw [Hl.out]; exact Nat.le_refl _)] at h1
        exact h1
      clear Ho
      go_wp2_with fail
      go_ret
      exact ⟨rfl, HE.out, Hb.out⟩
set_option maxHeartbeats 1000000 in
theorem szMove_any (s : Int) (t : ByteArray) (l : Int) (w : World) (h0 : 0 ≤ l) (hl : l ≤ 1048576) (ht : t.size ≤ maxLen) :
    Calls Try.prog 33 #[mvv s t, .int .i64 l] w fun e w' => e = .returned (.int .i64 (if (t.size : Int) ≤ l then l - t.size else -1)) ∧ Below w.heap.size w w' := by
  unfold maxLen at ht
  have hw : IntKind.i64.wrap (l - (t.size : Int)) = l - (t.size : Int) := IntWalk.i64_in _ (by omega)
  by_cases h : (t.size : Int) ≤ l
  · have d : decide (l - (t.size : Int) < 0) = false := decide_eq_false (by omega)
    rw [if_pos h]
    have hn : ¬ (l - (t.size : Int) < 0) := by omega
    clear h
    go_enter Try.func33, Try.ntmps33
    go_wp2_with fail
    go_ret
    exact ⟨rfl, (Below.refl _ _).alloc (Nat.le_refl _) _⟩
  · have d : decide (l - (t.size : Int) < 0) = true := decide_eq_true (by omega)
    rw [if_neg h]
    have hn : l - (t.size : Int) < 0 := by omega
    clear h
    go_enter Try.func33, Try.ntmps33
    go_wp2_with fail
    go_ret
    exact ⟨rfl, (Below.refl _ _).alloc (Nat.le_refl _) _⟩
set_option maxHeartbeats 4000000 in
theorem szMoveS_any (A : Option Addr) (n c : Nat) (xs : List Mv) (w : World) (hx : RdV w A n xs) (hn : n ≤ maxLen) (hs : Short xs) :
    Calls Try.prog 13 #[.slice A n c, .int .i64 1048576] w fun e w' => ∃ r : Int, e = .returned (.int .i64 r) ∧ (0 ≤ r → (n : Int) + lsum xs ≤ 1048576) ∧ -1 ≤ r ∧ Below w.heap.size w w' := by
  have HX := Lib.hid hx
  have HS := Lib.hid hs
  have Hl := Lib.hid hx.len
  clear hx hs
  unfold maxLen at hn
  have hw : IntKind.i64.wrap (1048576 - (n : Int)) = 1048576 - (n : Int) := IntWalk.i64_in _ (by omega)
  by_cases hbig : (1048576 : Int) < n
  · have d : decide ((1048576 : Int) - (n : Int) < 0) = true := decide_eq_true (by omega)
    have hng : (1048576 : Int) - (n : Int) < 0 := by omega
    clear hbig
    go_enter Try.func13, Try.ntmps13
    go_wp2_with fail
    go_ret
    exact ⟨-1, rfl, fun h => by omega, by omega, Below.refl _ _⟩
  · have d : decide ((1048576 : Int) - (n : Int) < 0) = false := decide_eq_false (by omega)
    have hng : ¬ ((1048576 : Int) - (n : Int) < 0) := by omega
    clear hbig
    go_enter Try.func13, Try.ntmps13
    go_wp2_with fail
    go_loopw [1, 5] (fun v i wr => ∃ (k : Nat) (l : Int), k ≤ n ∧ i = .int .i64 k ∧ v = .int .i64 l ∧ 0 ≤ l ∧ l ≤ 1048576 ∧ Hid ((n : Int) + lsum (xs.take k) + l = 1048576) ∧ Hid (Below w.heap.size w wr)) (fun _ i _ => n - (intOf i).toNat)
    case atStart => exact ⟨0, 1048576 - n, Nat.zero_le _, rfl, rfl, by omega, by omega, by simp [Hid, lsum]; omega, Below.refl _ _⟩
    case round =>
      clear d hng hw
      obtain ⟨k, l, hk, rfl, rfl, hl0, hl1, HE, Hb⟩ := hrel
      by_cases hlt : k < n
      · obtain ⟨b, off, p, rfl, hpk, hd0, hd1⟩ := HX.out.at_ hlt
        have c0 : wr.cell? ⟨b, off + k * 2, none⟩ = some (.int .i64 p.1) := (Hb.out.cell (block_lt_of_cell hd0)).trans hd0
        have c1 : wr.cell? ⟨b, off + k * 2 + 1, none⟩ = some (.string p.2) := (Hb.out.cell (block_lt_of_cell hd1)).trans hd1
        have HP := Lib.hid hpk
        have hps : p.2.size ≤ maxLen := HS.out p (List.mem_of_getElem? hpk)
        have HPS := Lib.hid hps
        clear hd0 hd1 hpk hps
        go_wp2_with fail
        refine (szMove_any _ _ _ _ hl0 hl1 HPS.out).mono ?_
        rintro e w2 ⟨rfl, hb2⟩
        have HB2 := Lib.hid (below_seq Hb.out hb2)
        clear hb2 Hb c0 c1
        by_cases hle : (p.2.size : Int) ≤ l
        · rw [if_pos hle]
          have d : decide (l - (p.2.size : Int) < 0) = false := decide_eq_false (by omega)
          have hng : ¬ (l - (p.2.size : Int) < 0) := by omega
          go_wp2_with fail
          go_roundw
          case rel => exact ⟨k + 1, l - p.2.size, by omega, by go_num, rfl, by omega, by omega, by unfold Hid; rw [lsum_snoc HP.out]; have := HE.out; omega, HB2.out⟩
          case measure => simp [intOf]; omega
        · rw [if_neg hle]
          go_wp2_with fail
          go_ret
          exact ⟨-1, rfl, fun h => by omega, by omega, HB2.out⟩
      · obtain rfl : k = n := by omega
        have HF : Hid ((k : Int) + lsum xs ≤ 1048576) := by
          have h1 := HE.out
          rw [List.take_of_length_le (by rw [Hl.out]; exact Nat.le_refl _)] at h1
          unfold Hid
          omega
        go_wp2_with fail
        go_ret
        exact ⟨l, rfl, fun _ => HF.out, by omega, Hb.out⟩
set_option maxHeartbeats 1000000 in
theorem eqMove_same (s : Int) (t : ByteArray) (w : World) :
    Calls Try.prog 35 #[mvv s t, mvv s t] w fun e w' => e = .returned (.bool true) ∧ Below w.heap.size w w' := by
  go_enter Try.func35, Try.ntmps35
  go_wp2_with fail
  go_ret
  refine ⟨rfl, ?_⟩
  go_grown
set_option maxHeartbeats 4000000 in
theorem eqMoveS_same (A A' : Option Addr) (n c c' : Nat) (xs : List Mv) (w : World) (hx : RdV w A n xs) (hy : RdV w A' n xs) (hn : n ≤ 1048576) :
    Calls Try.prog 16 #[.slice A n c, .slice A' n c'] w fun e w' => e = .returned (.bool true) ∧ Below w.heap.size w w' := by
  have HX := Lib.hid hx
  have HY := Lib.hid hy
  clear hx hy
  go_enter Try.func16, Try.ntmps16
  go_wp2_with fail
  go_loopw [5] (fun i wr => ∃ k : Nat, k ≤ n ∧ i = .int .i64 k ∧ Hid (Below w.heap.size w wr)) (fun i _ => n - (intOf i).toNat)
  case atStart => exact ⟨0, Nat.zero_le _, rfl, Below.refl _ _⟩
  case round =>
    obtain ⟨k, hk, rfl, Hb⟩ := hrel
    by_cases hlt : k < n
    · obtain ⟨b, off, p, rfl, hpk, hd0, hd1⟩ := HX.out.at_ hlt
      obtain ⟨b', off', p', rfl, hpk', he0, he1⟩ := HY.out.at_ hlt
      rw [hpk] at hpk'
      cases hpk'
      have c0 : wr.cell? ⟨b, off + k * 2, none⟩ = some (.int .i64 p.1) := (Hb.out.cell (block_lt_of_cell hd0)).trans hd0
      have c1 : wr.cell? ⟨b, off + k * 2 + 1, none⟩ = some (.string p.2) := (Hb.out.cell (block_lt_of_cell hd1)).trans hd1
      have e0 : wr.cell? ⟨b', off' + k * 2, none⟩ = some (.int .i64 p.1) := (Hb.out.cell (block_lt_of_cell he0)).trans he0
      have e1 : wr.cell? ⟨b', off' + k * 2 + 1, none⟩ = some (.string p.2) := (Hb.out.cell (block_lt_of_cell he1)).trans he1
      have k0 : (0 : Int) ≤ k := by omega
      have k1 : (k : Int) < n := by omega
      clear hd0 hd1 he0 he1 hpk
      go_wp2_with fail
      go_region_held3 (fun W => (W.cell? ⟨b, off + k * 2, none⟩ = some (.int .i64 p.1) ∧ W.cell? ⟨b, off + k * 2 + 1, none⟩ = some (.string p.2)) ∧ (W.cell? ⟨b', off' + k * 2, none⟩ = some (.int .i64 p.1) ∧ W.cell? ⟨b', off' + k * 2 + 1, none⟩ = some (.string p.2)))
        (first | exact ⟨⟨c0, c1⟩, ⟨e0, e1⟩⟩ | exact HS2)
        (first | (go_at_call 35; refine (eqMove_same _ _ _).mono ?_; rintro e w2 ⟨rfl, hb2⟩; have HS2 : (w2.cell? ⟨b, off + k * 2, none⟩ = some (.int .i64 p.1) ∧ w2.cell? ⟨b, off + k * 2 + 1, none⟩ = some (.string p.2)) ∧ (w2.cell? ⟨b', off' + k * 2, none⟩ = some (.int .i64 p.1) ∧ w2.cell? ⟨b', off' + k * 2 + 1, none⟩ = some (.string p.2)) := ⟨⟨(hb2.cell (block_lt_of_cell c0)).trans c0, (hb2.cell (block_lt_of_cell c1)).trans c1⟩, ⟨(hb2.cell (block_lt_of_cell e0)).trans e0, (hb2.cell (block_lt_of_cell e1)).trans e1⟩⟩; have Hb2 : Hid (Below w.heap.size w w2) := below_seq (w1 := wr.drew) Hb.out.drew hb2; clear hb2))
      all_goals (try clear HS2 c0 c1 e0 e1)
      all_goals go_wp2_with fail
      all_goals go_roundw
      all_goals first
        | (simp [intOf]; omega)
        | exact ⟨k + 1, by omega, by go_num, Hb2⟩
    · go_wp2_with fail
      go_ret
      exact ⟨rfl, Hb.out⟩
end Go.Proofs.Ytmplanlppjebnaa
