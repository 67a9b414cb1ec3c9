/-
  Contracts of LineText (the reference's and the program's); the walk of the law FnExactLineText.
  Conditions: a list of moves whose number and texts sum up to at most 2^20.
-/
import Derived.Test.YtmplanlppjebnaaMv1
import Derived.Test.YtmplanlppjebnaaShelf
namespace Go.Proofs.Ytmplanlppjebnaa
open Go.RowKit
set_option linter.unusedVariables false
attribute [local go_sem ↓] Go.wp_at_zero Go.wp_at_succ

/-- The letters of the moves of one section. -/
def ltx (k : Int) (xs : List Mv) : List UInt8 := xs.flatMap fun p => if p.1 = k then p.2.toList else []
theorem ltx_yes {k : Int} {xs : List Mv} {j : Nat} {p : Mv} (h : xs[j]? = some p) (hk : p.1 = k) : ltx k (xs.take (j + 1)) = ltx k (xs.take j) ++ p.2.toList := by
  rw [take_snoc h]; simp [ltx, hk]
theorem ltx_no {k : Int} {xs : List Mv} {j : Nat} {p : Mv} (h : xs[j]? = some p) (hk : p.1 ≠ k) : ltx k (xs.take (j + 1)) = ltx k (xs.take j) := by
  rw [take_snoc h]; simp [ltx, hk]
theorem ltx_len (k : Int) : ∀ xs : List Mv, (ltx k xs).length ≤ lsum xs
  | [] => by simp [ltx]
  | p :: xs => by
    have ih := ltx_len k xs
    have e1 : ltx k (p :: xs) = (if p.1 = k then p.2.toList else []) ++ ltx k xs := by simp [ltx]
    have e2 : lsum (p :: xs) = p.2.size + lsum xs := by simp [lsum]
    rw [e1, List.length_append, e2]
    split
    · rw [str_len']; omega
    · simp; omega
theorem strCells_mk (s : ByteArray) : Lib.strCells s = Lib.byteCells s.toList := by
  rw [ByteArray.toList_eq]
  rfl
theorem bd_add {T e : TypeId} {B b : Nat} {l : List UInt8} {s : ByteArray} {w : World} (h : Lib.BuilderAt T e B b (.pointer (some ⟨b, 0, none⟩)) (Lib.byteCells l ++ Lib.strCells s) w) : Lib.IsBuilder T e B b (Lib.byteCells (l ++ s.toList)) w := by
  have : Lib.byteCells l ++ Lib.strCells s = Lib.byteCells (l ++ s.toList) := by rw [strCells_mk]; simp [Lib.byteCells]
  rw [← this]
  exact .inr h
theorem bd_alloc {T e : TypeId} {B b : Nat} {bs : List Value} {w : World} (h : Lib.IsBuilder T e B b bs w) (o : Obj) : Lib.IsBuilder T e B b bs (w.alloc o) := by
  rcases h with ⟨hB, v, hh, ho, hn⟩ | ⟨hB, v, hh, ho, hn⟩
  · exact .inl ⟨hB, v, ((Below.refl w.heap.size w).alloc (Nat.le_refl _) o).block b (Array.getElem?_eq_some_iff.1 hh).1 |>.trans hh, ho.alloc o, hn⟩
  · exact .inr ⟨hB, v, ((Below.refl w.heap.size w).alloc (Nat.le_refl _) o).block b (Array.getElem?_eq_some_iff.1 hh).1 |>.trans hh, ho.alloc o, hn⟩
set_option maxHeartbeats 4000000 in
theorem specLineText_any (A : Option Addr) (n c : Nat) (xs : List Mv) (K : Int) (w : World) (hx : RdV w A n xs) (hn : n ≤ 1048576) (hs : lsum xs ≤ 1048576) :
    Calls Try.prog 14 #[.slice A n c, .int .i64 K] w fun e w' => e = .returned (.string (mkS (ltx K xs))) ∧ Below w.heap.size w w' := by
  have HX := Lib.hid hx
  have Hl := Lib.hid hx.len
  have HS := Lib.hid hs
  clear hx hs
  go_enter Try.func14, Try.ntmps14
  go_wp2_with fail
  go_loopw [5, 6] (fun v i wr => ∃ (k : Nat) (O : ByteArray), k ≤ n ∧ i = .int .i64 k ∧ v = .string O ∧ Hid (O = mkS (ltx K (xs.take k))) ∧ Hid (Below w.heap.size w wr)) (fun _ i _ => n - (intOf i).toNat)
  case atStart => exact ⟨0, ⟨#[]⟩, Nat.zero_le _, rfl, rfl, rfl, Below.refl _ _⟩
  case round =>
    obtain ⟨k, O, hk, rfl, rfl, HO, Hb⟩ := hrel
    by_cases hlt : k < n
    · obtain ⟨b, off, p, rfl, hpk, hd0, hd1⟩ := HX.out.at_ hlt
      have c0 : wr.cell? ⟨b, off + k * 2, none⟩ = some (.int .i64 p.1) := (Hb.out.cell (block_lt_of_cell hd0)).trans hd0
      have c1 : wr.cell? ⟨b, off + k * 2 + 1, none⟩ = some (.string p.2) := (Hb.out.cell (block_lt_of_cell hd1)).trans hd1
      have HP := Lib.hid hpk
      by_cases he : p.1 = K
      · have hq : (p.1 == K) = true := by simpa using he
        have hadd : ∀ W : World, (Op.stringOp .add O p.2).run Try.prog W = .ok (.string (mkS (ltx K (xs.take (k + 1))))) W := by
          intro W
          have h1 : O.size ≤ lsum xs := by
            rw [HO.out, mkS_size]
            exact Nat.le_trans (ltx_len K _) (lsum_take_le xs k)
          have h2 := mem_le_lsum (List.mem_of_getElem? hpk)
          have h3 := HS.out
          rw [run_string_add_sum W _ _ (by omega)]
          rw [mkS_eq (s := O ++ p.2) (l := ltx K (xs.take (k + 1))) (by rw [append_toList, HO.out, mkS_toList, ltx_yes hpk he])]
        clear hd0 hd1 hpk he
        go_wp2_with fail
        go_roundw
        case rel => exact ⟨k + 1, _, by omega, by go_num, rfl, rfl, Hb.out⟩
        case measure => simp [intOf]; omega
      · have hq : (p.1 == K) = false := by simpa using he
        have HO2 : Hid (O = mkS (ltx K (xs.take (k + 1)))) := by unfold Hid; rw [ltx_no hpk he]; exact HO.out
        clear hd0 hd1 hpk he
        go_wp2_with fail
        go_roundw
        case rel => exact ⟨k + 1, _, by omega, by go_num, rfl, HO2, Hb.out⟩
        case measure => simp [intOf]; omega
    · have HE : Hid (O = mkS (ltx K xs)) := by
        have h1 := HO.out
        rw [List.take_of_length_le (by have := Hl.out; omega)] at h1
        exact h1
      go_wp2_with fail
      go_ret
      exact ⟨by rw [HE.out]; rfl, Hb.out⟩
set_option maxHeartbeats 4000000 in
theorem implLineText_any (A : Option Addr) (n c : Nat) (xs : List Mv) (K : Int) (w : World) (hx : RdV w A n xs) (hn : n ≤ 1048576) (hs : lsum xs ≤ 1048576) :
    Calls Try.prog 12 #[.slice A n c, .int .i64 K] w fun e w' => e = .returned (.string (mkS (ltx K xs))) ∧ Below w.heap.size w w' := by
  have HX := Lib.hid hx
  have Hl := Lib.hid hx.len
  have HS := Lib.hid hs
  clear hx hs
  go_enter Try.func12, Try.ntmps12
  go_wp2_with fail
  go_loopw [10] (fun i wr => ∃ k : Nat, k ≤ n ∧ i = .int .i64 k ∧ Hid (Lib.IsBuilder 57 5 w.heap.size w.heap.size (Lib.byteCells (ltx K (xs.take k))) wr) ∧ Hid (Below w.heap.size w wr)) (fun i _ => n - (intOf i).toNat)
  case atStart => exact ⟨0, Nat.zero_le _, rfl, Lib.fresh_isBuilder _ _ _, (Below.refl _ _).alloc (Nat.le_refl _) _⟩
  case round =>
    obtain ⟨k, hk, rfl, HI, Hb⟩ := hrel
    have HBB : Hid (w.heap.size ≤ wr.heap.size) := Hb.out.size
    by_cases hlt : k < n
    · obtain ⟨b, off, p, rfl, hpk, hd0, hd1⟩ := HX.out.at_ hlt
      have c0 : wr.cell? ⟨b, off + k * 2, none⟩ = some (.int .i64 p.1) := (Hb.out.cell (block_lt_of_cell hd0)).trans hd0
      have c1 : wr.cell? ⟨b, off + k * 2 + 1, none⟩ = some (.string p.2) := (Hb.out.cell (block_lt_of_cell hd1)).trans hd1
      have HP := Lib.hid hpk
      have hbig : (Lib.byteCells (ltx K (xs.take k))).length + p.2.size ≤ 140737488355328 := by
        rw [Lib.byteCells_length]
        have h1 := Nat.le_trans (ltx_len K (xs.take k)) (lsum_take_le xs k)
        have h2 := mem_le_lsum (List.mem_of_getElem? hpk)
        have h3 := HS.out
        omega
      have HBIG := Lib.hid hbig
      have HI2 : Hid (Lib.IsBuilder 57 5 w.heap.size w.heap.size (Lib.byteCells (ltx K (xs.take k))) (wr.alloc (.cells #[.int .i64 p.1, .string p.2] 28))) := by
        exact bd_alloc HI.out _
      by_cases he : p.1 = K
      · have hq : (p.1 == K) = true := by simpa using he
        have HT := Lib.hid (ltx_yes hpk he)
        clear hd0 hd1 hpk he hbig
        go_wp2_with fail
        refine (Try.Builder_WriteString _ _ _ _ _ HI2.out HBIG.out (by simp; have := HBB.out; omega)).mono ?_
        rintro e w3 ⟨rfl, hi3, hb3⟩
        have HI3 := Lib.hid hi3
        have Hb3 := Lib.hid ((Hb.out.alloc HBB.out _).trans hb3)
        clear hi3 hb3
        go_wp2_with fail
        go_roundw
        case rel => exact ⟨k + 1, by omega, by go_num, by unfold Hid; rw [HT.out]; exact bd_add HI3.out, Hb3.out⟩
        case measure => simp [intOf]; omega
      · have hq : (p.1 == K) = false := by simpa using he
        have HT := Lib.hid (ltx_no hpk he)
        clear hd0 hd1 hpk he hbig
        go_wp2_with fail
        go_roundw
        case rel => exact ⟨k + 1, by omega, by go_num, by unfold Hid; rw [HT.out]; exact HI2.out, Hb.out.alloc HBB.out _⟩
        case measure => simp [intOf]; omega
    · have HE : Hid (xs.take k = xs) := List.take_of_length_le (by have := Hl.out; omega)
      go_wp2_with fail
      refine (Try.Builder_String_any _ _ _ _ HI.out HBB.out).mono ?_
      rintro e w3 ⟨rfl, hb3⟩
      have Hb3 := Lib.hid (Hb.out.trans hb3)
      clear hb3
      go_wp2_with fail
      go_ret
      exact ⟨by rw [HE.out]; rfl, Hb3.out⟩
set_option maxHeartbeats 4000000 in
theorem FnExactLineText_walk (w : World) (A : Option Addr) (n c : Nat) (xs : List Mv) (hx : RdV w A n xs) (hl : n ≤ c) (hc : c ≤ maxLen) (hsh : Short xs) (K : Int) (wk : (Lit.int .i64 K).wf = true) :
    Calls Try.prog 4 #[.slice A n c, .int .i64 K] w fun e w' => e = .returned (.bool true) ∧ Below w.heap.size w w' := by
  have HX := Lib.hid hx
  have HSH := Lib.hid hsh
  have HNM : Hid (n ≤ maxLen) := Nat.le_trans hl hc
  clear hx hsh wk hc hl
  go_enter Try.func4, Try.ntmps4
  go_wp2_with fail
  refine (szMoveS_any _ _ _ xs _ HX.out HNM.out HSH.out).mono ?_
  rintro e w1 ⟨r, rfl, hr, hr1, hb1⟩
  have Hb1 := Lib.hid hb1
  clear hb1
  by_cases h0 : r < 0
  · go_wp2_with fail
    go_ret
    exact ⟨rfl, Hb1.out⟩
  · obtain ⟨hn, hs⟩ : n ≤ 1048576 ∧ lsum xs ≤ 1048576 := by have := hr (by omega); omega
    have HS := Lib.hid hs
    have HXL := Lib.hid HX.out.len
    clear hr hs
    go_wp2_with fail
    refine (toMoveS_any _ _ _ xs _ (HX.out.below Hb1.out) hn).mono ?_
    rintro e w2 ⟨rfl, ho2, hb2⟩
    have HO2 := Lib.hid ho2
    have Hb2 := Lib.hid (below_seq Hb1.out hb2)
    clear ho2 hb2
    go_wp2_with fail
    refine (specLineText_any _ _ _ xs _ _ (RdV.of_own HO2.out) hn HS.out).mono ?_
    rintro e w3 ⟨rfl, hb3⟩
    have Hb3 := Lib.hid (below_seq Hb2.out hb3)
    clear hb3
    go_wp2_with fail
    refine (toMoveS_any _ _ _ xs _ (HX.out.below Hb3.out) hn).mono ?_
    rintro e w4 ⟨rfl, ho4, hb4⟩
    have HO4 := Lib.hid (RdV.of_own ho4)
    have Hb4 := Lib.hid (below_seq Hb3.out hb4)
    clear ho4 hb4
    go_wp2_with fail
    refine (implLineText_any _ _ _ xs _ _ HO4.out hn HS.out).mono ?_
    rintro e w5 ⟨rfl, hb5⟩
    have HO5 := Lib.hid (HO4.out.below hb5)
    have Hb5 := Lib.hid (below_seq Hb4.out hb5)
    clear hb5
    generalize mkS (ltx K xs) = T
    go_wp2_with fail
    refine (toMoveS_any _ _ _ xs _ (HX.out.below Hb5.out) hn).mono ?_
    rintro e w6 ⟨rfl, ho6, hb6⟩
    have HO6 := Lib.hid (RdV.of_own ho6)
    have HO5' := Lib.hid (HO5.out.below hb6)
    have Hb6 := Lib.hid (below_seq Hb5.out hb6)
    clear ho6 hb6
    go_wp2_with fail
    refine (eqMoveS_same _ _ _ _ _ xs _ HO5'.out HO6.out hn).mono ?_
    rintro e w7 ⟨rfl, hb7⟩
    have Hb7 := Lib.hid (below_seq Hb6.out hb7)
    clear hb7
    go_wp2_with fail
    go_ret
    exact ⟨rfl, Hb7.out⟩
end Go.Proofs.Ytmplanlppjebnaa
