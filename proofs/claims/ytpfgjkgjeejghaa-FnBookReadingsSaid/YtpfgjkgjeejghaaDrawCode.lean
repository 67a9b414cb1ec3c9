/-
  Contract of l91Code: what is drawn is some list of at most six numbers from -1 to 7, in new memory.
  Conditions: fewer than 900000 numbers have been drawn.
-/
import Derived.Test.YtpfgjkgjeejghaaDraw
import Derived.Test.YtpfgjkgjeejghaaCodes5
namespace Go.Proofs.Ytpfgjkgjeejghaa
open Go.RowKit
set_option linter.unusedVariables false

def CodeLike (zs : List Int) : Prop := zs.length ≤ 6 ∧ ∀ z ∈ zs, -1 ≤ z ∧ z ≤ 7
/-- A list that was drawn, in new memory. -/
def DrewL (L g p K : Nat) (w : World) (e : Ending) (w' : World) : Prop :=
  ∃ A n c zs p', e = .returned (.slice A n c) ∧ w'.ownsRow w.heap.size 3 1 (.slice A n c) n (zs.map (Value.int .i64)) ∧ CodeLike zs ∧ p' ≤ p + K ∧ Src w' L g p' ∧ w.grownBy w' (some g)

theorem grown_refl (w : World) (row : Option Nat) : w.grownBy w row := World.grownBy.refl w row
theorem grown_trans {a b c : World} {row : Option Nat} (h : a.grownBy b row) (k : b.grownBy c row) : a.grownBy c row :=
  ⟨k.os.trans h.os, k.tape.trans h.tape, k.output.trans h.output, Nat.le_trans h.size k.size, fun i hi hne => (k.block i (Nat.lt_of_lt_of_le hi h.size) hne).trans (h.block i hi hne)⟩
/-- Writes to a row that is new change nothing that was there. -/
theorem grown_new {a b c : World} {row row' : Option Nat} (h : a.grownBy b row) (k : b.grownBy c row') (hr : ∀ r, row' = some r → a.heap.size ≤ r) : a.grownBy c row :=
  ⟨k.os.trans h.os, k.tape.trans h.tape, k.output.trans h.output, Nat.le_trans h.size k.size, fun i hi hne => (k.block i (Nat.lt_of_lt_of_le hi h.size) (fun e => by have := hr i e.symm; omega)).trans (h.block i hi hne)⟩
theorem grown_alloc {a b : World} {row : Option Nat} (h : a.grownBy b row) (o : Obj) : a.grownBy (b.alloc o) row := grown_new h (World.grownBy_alloc b o none) (fun r e => by cases e)
theorem grown_below {a b c : World} {row : Option Nat} {B : Nat} (h : a.grownBy b row) (k : Below B b c) (hB : a.heap.size ≤ B) : a.grownBy c row :=
  ⟨k.os.trans h.os, k.tape.trans h.tape, k.output.trans h.output, Nat.le_trans h.size k.size, fun i hi hne => (k.block i (by omega)).trans (h.block i hi hne)⟩
theorem grown_drewN {a b : World} {row : Option Nat} (h : a.grownBy b row) (n : Nat) : a.grownBy (b.drewN n) row := ⟨h.os, h.tape, h.output, h.size, h.block⟩
theorem Src.lt {w : World} {L g p : Nat} (h : Src w L g p) : g < L ∧ L ≤ w.heap.size := ⟨h.1, h.2.1⟩

theorem own_take {w : World} {base : Nat} {e : TypeId} {A : Option Addr} {n c k : Nat} {xs : List Value} (h : w.ownsRow base e 1 (.slice A n c) n xs) (hk : k ≤ n) : w.ownsRow base e 1 (.slice A k c) k (xs.take k) := by
  have hl : xs.length = n := by simpa using h.1
  refine ⟨by rw [List.length_take, hl]; omega, ?_⟩
  rcases h.2 with ⟨h', h0⟩ | ⟨g, cap, cur, h', hb, hg, hnc, hcm, hcs, htake⟩
  · simp only [Value.slice.injEq] at h'
    obtain ⟨rfl, rfl, rfl⟩ := h'
    obtain rfl : k = 0 := by omega
    exact .inl ⟨rfl, rfl⟩
  · simp only [Value.slice.injEq] at h'
    obtain ⟨rfl, _, rfl⟩ := h'
    refine .inr ⟨g, c, cur, rfl, hb, hg, by omega, hcm, hcs, ?_⟩
    rw [← htake, List.take_take]
    congr 1
    omega
set_option maxHeartbeats 4000000 in
theorem l91Code_any (L g p : Nat) (w : World) (hs : Src w L g p) (hp : p ≤ 900000) :
    Calls Try.prog 70 #[.pointer (some ⟨g, 0, none⟩)] w (DrewL L g p 8 w) := by
  have HS := Lib.hid hs
  have hgL : g < w.heap.size := by have := hs.lt; omega
  have hL : L ≤ w.heap.size := hs.lt.2
  clear hs
  obtain ⟨i0, hi, hz0, hz1, hz2⟩ := info_parts Try.infoInt
  go_enter Try.func70, Try.ntmps70
  go_wp2_with fail
  refine (pick_any L g p _ _ (HS.out.alloc _) (by omega) (by omega)).mono ?_
  rintro e w1 ⟨X, rfl, hX, _, hs1, hg1⟩
  obtain ⟨hX0, hX3⟩ := hX (by omega)
  have HS1 := Lib.hid hs1
  have HO1 : Hid (w1.ownsRow w.heap.size 3 1 (.slice (some ⟨w.heap.size, 0, none⟩) 0 0) 0 []) := own_kept (own_lit0 w _) hg1 (fun a r h1 h2 => by simp [Value.ownBlock] at h1; cases h2; omega)
  have HG1 := Lib.hid (grown_trans (grown_alloc (grown_refl w (some g)) _) hg1)
  clear hs1 hg1 hX
  go_wp2_with fail
  go_loopw [3, 5] (fun v i wr => ∃ (k : Nat) (zs : List Int) (p' : Nat), (k : Int) ≤ 1 + X ∧ i = .int .i64 k ∧ Hid (wr.ownsRow w.heap.size 3 1 v k (zs.map (Value.int .i64))) ∧ Hid (∀ z ∈ zs, 1 ≤ z ∧ z ≤ 3) ∧ p' ≤ p + 1 + k ∧ Hid (Src wr L g p') ∧ Hid (w.grownBy wr (some g))) (fun _ i _ => 5 - (intOf i).toNat)
  case atStart => exact ⟨0, [], p + 1, by omega, rfl, HO1.out, by simp [Hid], by omega, HS1.out, HG1.out⟩
  case round =>
    obtain ⟨k, zs, p', hk, rfl, Ho, Hz, hp', Hs, Hg⟩ := hrel
    obtain ⟨A2, c2, rfl, hfc⟩ := own_form Ho.out
    obtain ⟨hkc, hcm, hfb⟩ := hfc
    have HFB := Lib.hid hfb
    clear hfb
    have Hlz : Hid (zs.length = k) := by unfold Hid; simpa using Ho.out.1
    have hsz : w.heap.size ≤ wr.heap.size := Hg.out.size
    by_cases hlt : (k : Int) < 1 + X
    · go_wp2_with fail
      refine (pick_any L g p' _ _ Hs.out (by omega) (by omega)).mono ?_
      rintro e w2 ⟨y, rfl, hy, _, hs2, hg2⟩
      obtain ⟨hy0, hy3⟩ := hy (by omega)
      have Hs2 := Lib.hid hs2
      have hown : w2.ownsRow w.heap.size 3 1 (.slice A2 k c2) k (zs.map (Value.int .i64)) := own_kept Ho.out hg2 (fun a r h1 h2 => by have := (HFB.out a h1).1; cases h2; omega)
      have Hg2 := Lib.hid (grown_trans Hg.out hg2)
      have hsz2 : w.heap.size ≤ w2.heap.size := Hg2.out.size
      clear hs2 hg2 hy
      have HO2 := Lib.hid hown
      go_wp2_with (at_builtin; refine wpList_append_own _ rfl _ _ 23 rfl w.heap.size 3 i0 (.int .i64 0) 1 8 Try.underlying23 hi hz0 hz1 hz2 rfl (by decide) _ _ _ rfl (hown.alloc _) ⟨w2.heap.size, 0, none⟩ 1 1 [.int .i64 (1 + y)] rfl rfl (cell_new _ _ _) (one_cell _ rfl) ?c3 ?c4 ?c5 ?_)
      case c3 => unfold maxLen; omega
      case c4 => omega
      case c5 => simp; omega
      intro v3 w3 hown3 hgrow3 _
      have Ho3 := Lib.hid hown3
      have Hs3 := Lib.hid ((Hs2.out.alloc (.cells #[.int .i64 (1 + y)] 3)).grown hgrow3 (fun r h => by have := (HFB.out r h).1; omega))
      have Hg3 := Lib.hid (grown_new (grown_alloc Hg2.out (.cells #[.int .i64 (1 + y)] 3)) hgrow3 (fun r h => (HFB.out r h).1))
      clear hown hown3 hgrow3
      go_wp2_with fail
      go_roundw
      case rel =>
        refine ⟨k + 1, zs ++ [1 + y], p' + 1, by omega, by go_num, ?_, ?_, by omega, Hs3.out, Hg3.out⟩
        · unfold Hid; rw [List.map_append]; exact Ho3.out
        · intro z hz
          rcases List.mem_append.1 hz with h | h
          · exact Hz.out z h
          · simp at h; omega
      case measure => simp [intOf]; omega
    · have hk1 : 1 ≤ k := by omega
      have hk3 : k ≤ 3 := by omega
      have hge : 1 + X ≤ (k : Int) := by omega
      have HC : Hid (CodeLike zs) := ⟨by have := Hlz.out; omega, fun z hz => by have := Hz.out z hz; omega⟩
      clear hlt
      go_wp2_with fail
      refine (pick_any L g p' _ _ Hs.out (by omega) (by omega)).mono ?_
      rintro e w2 ⟨y, rfl, hy, _, hs2, hg2⟩
      obtain ⟨hy0, hy3⟩ := hy (by omega)
      have Hs2 := Lib.hid hs2
      have HO2 : Hid (w2.ownsRow w.heap.size 3 1 (.slice A2 k c2) k (zs.map (Value.int .i64))) := own_kept Ho.out hg2 (fun a r h1 h2 => by have := (HFB.out a h1).1; cases h2; omega)
      have Hg2 := Lib.hid (grown_trans Hg.out hg2)
      have hsz2 : w.heap.size ≤ w2.heap.size := Hg2.out.size
      clear hs2 hg2 hy
      by_cases h0 : y = 0
      · subst h0
        go_wp2_with fail
        refine (pick_any L g (p' + 1) _ _ (Hs2.out.alloc _) (by omega) (by omega)).mono ?_
        rintro e w3 ⟨u, rfl, hu, _, hs3, hg3⟩
        obtain ⟨hu0, hu4⟩ := hu (by omega)
        obtain ⟨un, rfl⟩ := Int.eq_ofNat_of_zero_le hu0
        have hform : ∃ gv, A2 = some ⟨gv, 0, none⟩ := by
          rcases HO2.out.2 with ⟨h', h0⟩ | ⟨gv, cap, cur, h', _⟩
          · omega
          · simp only [Value.slice.injEq] at h'
            exact ⟨gv, h'.1⟩
        obtain ⟨gv, rfl⟩ := hform
        have hgv := HFB.out gv rfl
        have HO3 : Hid (w3.ownsRow w.heap.size 3 1 (.slice (some ⟨gv, 0, none⟩) k c2) k (zs.map (Value.int .i64))) := own_kept (HO2.out.alloc _) hg3 (fun a r h1 h2 => by have := (HFB.out a h1).1; cases h2; omega)
        have hlit : ∃ z : Int, -1 ≤ z ∧ z ≤ 7 ∧ w3.cell? ⟨w2.heap.size, un, none⟩ = some (.int .i64 z) := by
          have hc : ∀ j u, j < 4 → #[Value.int .i64 0, .int .i64 7, .int .i64 6, .int .i64 (-1)][j]? = some u → w3.cell? ⟨w2.heap.size, j, none⟩ = some u := by
            intro j u hj hu
            have h1 := hg3.block w2.heap.size (by simp) (fun e => by injection e with e; omega)
            rw [cell_of_row w3 w2.heap.size j _ _ _ (h1.trans (heap_alloc_new w2 _))]
            exact hu
          have : un = 0 ∨ un = 1 ∨ un = 2 ∨ un = 3 := by omega
          rcases this with rfl | rfl | rfl | rfl
          · exact ⟨0, by omega, by omega, hc 0 _ (by omega) rfl⟩
          · exact ⟨7, by omega, by omega, hc 1 _ (by omega) rfl⟩
          · exact ⟨6, by omega, by omega, hc 2 _ (by omega) rfl⟩
          · exact ⟨-1, by omega, by omega, hc 3 _ (by omega) rfl⟩
        obtain ⟨z, hz1', hz2', hcz⟩ := hlit
        have hst : ∃ u, w3.cell? ⟨gv, 0, none⟩ = some u := by
          rw [HO3.out.cellAt 0 (by omega)]
          exact ⟨_, List.getElem?_eq_getElem (by have := Hlz.out; simp; omega)⟩
        obtain ⟨uu, hst⟩ := hst
        have hfz : w3.frozen? ⟨gv, 0, none⟩ = false := HO3.out.frozenAt 0
        have Hs3 := Lib.hid hs3
        have Hg3 := Lib.hid (grown_trans (grown_alloc Hg2.out _) hg3)
        clear hs3 hg3 hu
        go_wp2_with fail
        go_ret
        have hst2 := HO3.out.stored 0 (.int .i64 z)
        refine ⟨_, k, _, zs.set 0 z, p' + 1 + 1, rfl, by rw [List.map_set]; exact hst2.1, ⟨by rw [List.length_set]; exact HC.out.1, fun y hy => ?_⟩, by omega, ?_, ?_⟩
        · rcases List.mem_or_eq_of_mem_set hy with h | h
          · exact HC.out.2 y h
          · subst h; omega
        · exact Hs3.out.grown hst2.2 (fun r h => by cases h; omega)
        · exact grown_new Hg3.out hst2.2 (fun r h => by cases h; exact hgv.1)
      · have hb0 : (y == 0) = false := by simpa using h0
        clear h0
        by_cases h1 : y = 1
        · subst h1
          clear hb0
          go_wp2_with fail
          go_ret
          exact ⟨_, 0, _, [], p' + 1, rfl, own_base (own_lit0 w2 _) hsz2, ⟨by simp, by simp⟩, by omega, Hs2.out.alloc _, grown_alloc Hg2.out _⟩
        · have hb1 : (y == 1) = false := by simpa using h1
          clear h1
          by_cases h2 : y = 2
          · subst h2
            clear hb0 hb1
            go_wp2_with fail
            refine (pick_any L g (p' + 1) _ _ (Hs2.out.alloc _) (by omega) (by omega)).mono ?_
            rintro e w3 ⟨u, rfl, hu, _, hs3, hg3⟩
            obtain ⟨hu0, hu4⟩ := hu (by omega)
            have HL3 : Hid (w3.ownsRow w2.heap.size 3 1 (.slice (some ⟨w2.heap.size, 0, none⟩) 6 6) 6 (([1, 2, 1, 2, 1, 1] : List Int).map (Value.int .i64))) :=
              own_kept (World.ownsRow_lit w2 #[.int .i64 1, .int .i64 2, .int .i64 1, .int .i64 2, .int .i64 1, .int .i64 1] 6 (Nat.le_refl _) (by unfold maxLen; omega) rfl) hg3 (fun a r h1 h2 => by simp [Value.ownBlock] at h1; cases h2; omega)
            have Hs3 := Lib.hid hs3
            have Hg3 := Lib.hid (grown_trans (grown_alloc Hg2.out _) hg3)
            clear hs3 hg3 hu
            obtain ⟨un, rfl⟩ := Int.eq_ofNat_of_zero_le hu0
            go_wp2_with fail
            go_ret
            have hown := own_take HL3.out (k := 5 + un) (by omega)
            rw [← List.map_take] at hown
            refine ⟨_, 5 + un, 6, ([1, 2, 1, 2, 1, 1] : List Int).take (5 + un), p' + 1 + 1, rfl, own_base hown hsz2, ⟨by simp; omega, fun z hz => ?_⟩, by omega, Hs3.out, Hg3.out⟩
            have := List.mem_of_mem_take hz
            simp at this
            omega
          · have hb2 : (y == 2) = false := by simpa using h2
            clear h2
            go_wp2_with fail
            go_ret
            exact ⟨_, k, _, zs, p' + 1, rfl, HO2.out, HC.out, by omega, Hs2.out, Hg2.out⟩
end Go.Proofs.Ytpfgjkgjeejghaa
