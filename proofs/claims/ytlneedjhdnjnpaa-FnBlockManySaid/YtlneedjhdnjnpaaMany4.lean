/-
  Contract: BlockMany of the reference.
  Conditions: none.
-/
import Derived.Test.YtlneedjhdnjnpaaMany3
import Derived.Deep.RegionHeld3
import Derived.Test.YtlneedjhdnjnpaaInts
namespace Go.Proofs.Ytlneedjhdnjnpaa
open Go.RowKit
set_option linter.unusedVariables false
attribute [local go_sem ↓] Go.wp_at_zero Go.wp_at_succ run_eql_block run_neq_block

theorem Room.mkeep {w w' : World} {B : Nat} {v0 v1 v2 : Value} (h : Room w B v0 v1 v2) (hb : w'.heap[B]? = w.heap[B]?) : Room w' B v0 v1 v2 := by
  obtain ⟨h0, h1, h2, f0, f1, f2⟩ := h
  exact ⟨(World.cell?_of_block (a := ⟨B, 0, none⟩) hb).trans h0, (World.cell?_of_block (a := ⟨B, 1, none⟩) hb).trans h1, (World.cell?_of_block (a := ⟨B, 2, none⟩) hb).trans h2,
    (World.frozen?_of_block (a := ⟨B, 0, none⟩) hb).trans f0, (World.frozen?_of_block (a := ⟨B, 1, none⟩) hb).trans f1, (World.frozen?_of_block (a := ⟨B, 2, none⟩) hb).trans f2⟩
theorem mroom (w : World) (v0 v1 v2 : Value) (t : TypeId) : Room (w.alloc (.cells #[v0, v1, v2] t)) w.heap.size v0 v1 v2 := by
  refine ⟨?_, ?_, ?_, ?_, ?_, ?_⟩ <;> simp [go_sem]
/-- What the loops of BlockMany keep. -/
structure MW (w W : World) (ga gw gn : Nat) (n : Int) (i o : Bool) (xs ys : List Int) : Prop where
  box : Room W w.heap.size (.int .i64 n) (.bool i) (.bool o)
  all : AllB W ga
  ways : W.ownsRow w.heap.size 3 1 (.slice (some ⟨gw, 0, none⟩) 5 5) 5 (xs.map (Value.int .i64))
  next : W.ownsRow w.heap.size 3 1 (.slice (some ⟨gn, 0, none⟩) 5 5) 5 (ys.map (Value.int .i64))
  bel : Below w.heap.size w W
section
variable {w W W' : World} {ga gw gn : Nat} {n : Int} {i o : Bool} {xs ys : List Int}
theorem MW.grown (h : MW w W ga gw gn n i o xs ys) {row : Option Nat} (hg : W.grownBy W' row) (hr : ∀ r, row = some r → w.heap.size < r ∧ r ≠ ga ∧ r ≠ gw ∧ r ≠ gn) : MW w W' ga gw gn n i o xs ys := by
  refine ⟨h.box.mkeep (hg.block _ h.box.lt (fun e => ?_)), h.all.same (hg.block _ h.all.lt (fun e => ?_)), own_kept h.ways hg (fun g r e1 e2 => ?_), own_kept h.next hg (fun g r e1 e2 => ?_), below_grown h.bel hg h.bel.size (fun r e => Nat.le_of_lt (hr r e).1)⟩
  · have := (hr _ e.symm).1; omega
  · exact (hr _ e.symm).2.1 rfl
  · cases e1; exact fun e => (hr r e2).2.2.1 e.symm
  · cases e1; exact fun e => (hr r e2).2.2.2 e.symm
theorem MW.later (h : MW w W ga gw gn n i o xs ys) (hb : Below W.heap.size W W') : MW w W' ga gw gn n i o xs ys :=
  h.grown (row := none) ⟨hb.os, hb.tape, hb.output, hb.size, fun k hk _ => hb.block k hk⟩ (fun r e => by cases e)
theorem MW.alloc (h : MW w W ga gw gn n i o xs ys) (ob : Obj) : MW w (W.alloc ob) ga gw gn n i o xs ys := h.later ((Below.refl _ _).alloc (Nat.le_refl _) ob)
theorem MW.drew (h : MW w W ga gw gn n i o xs ys) : MW w W.drew ga gw gn n i o xs ys := ⟨h.box, h.all, h.ways, h.next, ⟨h.bel.os, h.bel.tape, h.bel.output, h.bel.size, h.bel.block⟩⟩
theorem MW.set3 (h : MW w W ga gw gn n i o xs ys) {X : Nat} (hX : w.heap.size < X ∧ X ≠ ga ∧ X ≠ gw ∧ X ≠ gn) (v0 v1 v2 : Value) : MW w (set3 W X v0 v1 v2) ga gw gn n i o xs ys := by
  refine h.grown (row := some X) ⟨rfl, rfl, rfl, by simp, fun k _ hk => ?_⟩ (fun r e => by cases e; exact hX)
  have hne : k ≠ X := fun e => hk (by rw [e])
  exact (heap_setCell_other _ ⟨X, 2, none⟩ k _ hne).trans ((heap_setCell_other _ ⟨X, 1, none⟩ k _ hne).trans (heap_setCell_other _ ⟨X, 0, none⟩ k _ hne))
theorem MW.put (h : MW w W ga gw gn n i o xs ys) (hg : w.heap.size < gn ∧ gn ≠ ga ∧ gn ≠ gw) (j : Nat) (v : Int) : MW w (W.setCell ⟨gn, j, none⟩ (.int .i64 v)) ga gw gn n i o xs (ys.set j v) := by
  have hgr : W.grownBy (W.setCell ⟨gn, j, none⟩ (.int .i64 v)) (some gn) := ⟨rfl, rfl, rfl, by simp, fun k _ hk => heap_setCell_other _ ⟨gn, j, none⟩ k _ (fun e => hk (by rw [e]))⟩
  refine ⟨h.box.mkeep (hgr.block _ h.box.lt (fun e => ?_)), h.all.same (hgr.block _ h.all.lt (fun e => ?_)), own_kept h.ways hgr (fun g r e1 e2 => ?_), ?_, below_grown h.bel hgr h.bel.size (fun r e => by cases e; exact Nat.le_of_lt hg.1)⟩
  · have := hg.1; injection e with e; omega
  · injection e with e; exact hg.2.1 e.symm
  · cases e1; cases e2; exact fun e => hg.2.2 e.symm
  · rw [List.map_set]; exact (h.next.stored j (.int .i64 v)).1
theorem MW.put1 (h : MW w W ga gw gw n i o xs xs) (hg : w.heap.size < gw ∧ gw ≠ ga) (j : Nat) (v : Int) : MW w (W.setCell ⟨gw, j, none⟩ (.int .i64 v)) ga gw gw n i o (xs.set j v) (xs.set j v) := by
  have hgr : W.grownBy (W.setCell ⟨gw, j, none⟩ (.int .i64 v)) (some gw) := ⟨rfl, rfl, rfl, by simp, fun k _ hk => heap_setCell_other _ ⟨gw, j, none⟩ k _ (fun e => hk (by rw [e]))⟩
  have hrow := (h.next.stored j (.int .i64 v)).1
  rw [← List.map_set] at hrow
  refine ⟨h.box.mkeep (hgr.block _ h.box.lt (fun e => ?_)), h.all.same (hgr.block _ h.all.lt (fun e => ?_)), hrow, hrow, below_grown h.bel hgr h.bel.size (fun r e => by cases e; exact Nat.le_of_lt hg.1)⟩
  · have := hg.1; injection e with e; omega
  · injection e with e; exact hg.2 e.symm
theorem MW.lts (h : MW w W ga gw gn n i o xs ys) : w.heap.size < W.heap.size ∧ ga < W.heap.size ∧ gw < W.heap.size ∧ gn < W.heap.size := ⟨h.box.lt, h.all.lt, (h.ways.lt _ rfl).2, (h.next.lt _ rfl).2⟩
theorem MW.way (h : MW w W ga gw gn n i o xs ys) {j : Nat} {v : Int} (hj : xs[j]? = some v) : W.cell? ⟨gw, j, none⟩ = some (.int .i64 v) := by
  have hl : xs.length = 5 := by have := h.ways.1; simpa using this
  have : j < xs.length := (List.getElem?_eq_some_iff.1 hj).1
  rw [h.ways.cellAt j (by omega), List.getElem?_map, hj]; rfl
theorem MW.nxt (h : MW w W ga gw gn n i o xs ys) {j : Nat} {v : Int} (hj : ys[j]? = some v) : W.cell? ⟨gn, j, none⟩ = some (.int .i64 v) := by
  have hl : ys.length = 5 := by have := h.next.1; simpa using this
  have : j < ys.length := (List.getElem?_eq_some_iff.1 hj).1
  rw [h.next.cellAt j (by omega), List.getElem?_map, hj]; rfl
theorem MW.made (h : MW w W ga gw gw n i o xs xs) {row : Option Nat} (hg : W.grownBy W' row) (hr : row = none) (hn : W'.ownsRow w.heap.size 3 1 (.slice (some ⟨gn, 0, none⟩) 5 5) 5 (ys.map (Value.int .i64))) : MW w W' ga gw gn n i o xs ys := by
  have k := h.grown hg (fun r e => by rw [hr] at e; cases e)
  exact ⟨k.box, k.all, k.ways, hn, k.bel⟩
theorem MW.swap (h : MW w W ga gw gn n i o xs ys) : MW w W ga gn gn n i o ys ys := ⟨h.box, h.all, h.next, h.next, h.bel⟩
end
set_option maxRecDepth 100000 in
set_option maxHeartbeats 16000000 in
theorem specBlockMany_any (n : Int) (i o : Bool) (m : Int) (w : World) :
    Calls Try.prog 38 #[bv n i o, .int .i64 m] w fun e w' => e = .returned (.int .i64 (Bk.manyR n i o m)) ∧ Below w.heap.size w w' := by
  cases hst : Bk.stOf n i o with
  | none =>
    have HP : Hid (Bk.possible n i o = false) := by unfold Hid Bk.possible; rw [hst]; rfl
    have HN := Lib.hid (Bk.manyR_none hst m)
    clear hst
    go_enter Try.func38, Try.ntmps38
    go_wp2_with fail
    refine (specBlockPossible_any _ _ _ _).mono ?_
    rintro e w1 ⟨rfl, hb1⟩
    have Hb1 := Lib.hid hb1
    clear hb1
    rw [HP.out]
    go_wp2_with fail
    go_ret
    exact ⟨by rw [HN.out]; rfl, below_seq ((Below.refl w.heap.size w).alloc (Nat.le_refl _) _) Hb1.out⟩
  | some q =>
    have HP : Hid (Bk.possible n i o = true) := by unfold Hid Bk.possible; rw [hst]; rfl
    have HST := Lib.hid hst
    have hq5 : q < 5 := (Bk.stOf_lt hst).1
    obtain ⟨en, ei, eo⟩ := (Bk.stOf_lt hst).2
    have HQN : Hid (Bk.nd q = n ∧ Bk.ins q = i ∧ Bk.off q = o) := ⟨en, ei, eo⟩
    clear hst en ei eo
    by_cases h30 : 0 ≤ m ∧ m ≤ 30
    · obtain ⟨N, rfl⟩ : ∃ N : Nat, m = N := ⟨m.toNat, by omega⟩
      have HN := Lib.hid (Bk.manyR_in HST.out (show N ≤ 30 by omega))
      have hN30 : N ≤ 30 := by omega
      clear h30
      obtain ⟨i0, hi, hz0, hz1, hz2⟩ := info_parts Try.infoInt
      go_enter Try.func38, Try.ntmps38
      go_wp2_with fail
      refine (specBlockPossible_any _ _ _ _).mono ?_
      rintro e w1 ⟨rfl, hb1⟩
      have HR1 : Hid (Room w1 w.heap.size (.int .i64 n) (.bool i) (.bool o)) := Room.later (by refine ⟨?_, ?_, ?_, ?_, ?_, ?_⟩ <;> simp [go_sem]) hb1
      have Hb1 : Hid (Below w.heap.size w w1) := below_seq ((Below.refl w.heap.size w).alloc (Nat.le_refl _) _) hb1
      clear hb1
      rw [HP.out]
      go_wp2_with fail
      refine (l6In_yes _ _ _ _ (by omega) (by omega)).mono ?_
      rintro e w1' ⟨rfl, rfl⟩
      go_wp2_with fail
      refine (l3All_eq _).mono ?_
      rintro e w2 ⟨rfl, rfl⟩
      obtain ⟨ga, hga⟩ : ∃ ga, ga = w1.heap.size := ⟨_, rfl⟩
      have HA2 : Hid (AllB (w1.alloc (.cells allD 34)) ga) := by rw [hga]; exact AllB.made _ _
      have HR2 := Lib.hid (HR1.out.alloc (.cells allD 34))
      have Hb2 := Lib.hid (Hb1.out.alloc Hb1.out.size (.cells allD 34))
      have HGA : Hid (w.heap.size < ga) := by rw [hga]; exact HR1.out.lt
      rw [← hga]
      have hgz : (w1.alloc (.cells allD 34)).heap.size = ga + 1 := by simp [hga]
      generalize w1.alloc (.cells allD 34) = w2 at HA2 HR2 Hb2 hgz ⊢
      clear hga HR1 Hb1
      go_wp2_with (at_make; refine wpList_make_full _ rfl _ _ 46 rfl w2.heap.size 3 i0 (.int .i64 0) 1 Try.underlying46 hi hz0 hz1 _ _ _ _ 5 rfl rfl rfl rfl ?b2 ?b3 ?b4 ?_)
      case b2 => rw [hz2]; omega
      case b3 => unfold maxLen; omega
      case b4 => exact Nat.le_refl _
      intro w3 hown hgrow
      rw [toList_madeCells_one] at hown
      obtain ⟨g0, hg0⟩ : ∃ g0, g0 = ga + 1 := ⟨_, rfl⟩
      rw [← hg0] at hown ⊢
      have HM : Hid (MW w w3 ga g0 g0 n i o [0, 0, 0, 0, 0] [0, 0, 0, 0, 0]) := by
        have hB := Hb2.out.size
        have ho : w3.ownsRow w.heap.size 3 1 (.slice (some ⟨g0, 0, none⟩) 5 5) 5 (([0, 0, 0, 0, 0] : List Int).map (Value.int .i64)) := own_base (base := g0) hown (by omega)
        exact ⟨HR2.out.mkeep (hgrow.block _ HR2.out.lt (fun e => by cases e)), HA2.out.same (hgrow.block _ HA2.out.lt (fun e => by cases e)), ho, ho, below_grown Hb2.out hgrow Hb2.out.size (fun k h => by cases h)⟩
      have HG0 : Hid (w.heap.size < g0 ∧ g0 ≠ ga) := by have := HGA.out; exact ⟨by omega, by omega⟩
      clear hown hgrow HA2 HR2 Hb2 hgz hg0
      have HZ2 := Lib.hid hz2
      clear hz2
      go_wp2_with fail
      go_loopw [7] (fun x wr => ∃ k : Nat, k ≤ 5 ∧ x = .int .i64 k ∧ Hid (MW w wr ga g0 g0 n i o (Bk.vec fun y => if y < k then 1 else 0) (Bk.vec fun y => if y < k then 1 else 0))) (fun x _ => 5 - (intOf x).toNat)
      case atStart => exact ⟨0, by omega, rfl, HM.out⟩
      case round =>
        clear HM
        obtain ⟨k, hk, rfl, HM⟩ := hrel
        by_cases hlt : k < 5
        · have hst := HM.out.nxt (Bk.vec_at (fun y => if y < k then 1 else 0) hlt)
          have hfz := HM.out.next.frozenAt k
          go_wp2_with fail
          go_roundw
          case rel =>
            refine ⟨k + 1, by omega, by go_num, ?_⟩
            have h1 := HM.out.put1 HG0.out k 1
            rw [Bk.vec_set _ hlt] at h1
            rw [Bk.vec_ext (g := fun y => if y < k + 1 then 1 else 0) (fun j hj => by by_cases e : j = k <;> by_cases e2 : j < k <;> simp [e, e2] <;> omega)] at h1
            exact h1
          case measure => simp [intOf]; omega
        · have hk5 : k = 5 := by omega
          have HM1 : Hid (MW w wr ga g0 g0 n i o (Bk.vec fun x => Bk.many 0 (Bk.pl x)) (Bk.vec fun x => Bk.many 0 (Bk.pl x))) := by
            have h1 := HM.out
            rw [hk5] at h1
            rw [Bk.vec_ext (g := fun x => Bk.many 0 (Bk.pl x)) (fun j hj => by simp [hj, Bk.many])] at h1
            exact h1
          have hk1 : 5 ≤ k := by omega
          clear HM hk5 hk
          go_wp2_with fail
          go_loopw [6, 8] (fun v x wr => ∃ (k gw : Nat), k ≤ N ∧ x = .int .i64 k ∧ v = .slice (some ⟨gw, 0, none⟩) 5 5 ∧ Hid (w.heap.size < gw ∧ gw ≠ ga) ∧ Hid (MW w wr ga gw gw n i o (Bk.vec fun x => Bk.many k (Bk.pl x)) (Bk.vec fun x => Bk.many k (Bk.pl x)))) (fun _ x _ => N - (intOf x).toNat)
          case atStart => exact ⟨0, g0, by omega, rfl, rfl, HG0, HM1⟩
          case round =>
            clear HM1 HG0
            obtain ⟨k, gw, hk, rfl, rfl, HGW, HM⟩ := hrel
            by_cases hlt : k < N
            · obtain ⟨wo, rfl⟩ : ∃ wo : World, wo = wr := ⟨_, rfl⟩
              have hz2 : i0.bytes = 8 := HZ2.out
              go_wp2_with (at_make; refine wpList_make_full _ rfl _ _ 46 rfl wo.heap.size 3 i0 (.int .i64 0) 1 Try.underlying46 hi hz0 hz1 _ _ _ _ 5 rfl rfl rfl rfl ?b2 ?b3 ?b4 ?_)
              case b2 => rw [hz2]; omega
              case b3 => unfold maxLen; omega
              case b4 => exact Nat.le_refl _
              clear hz2
              intro w4 hown hgrow
              rw [toList_madeCells_one] at hown
              obtain ⟨gn, hgn⟩ : ∃ gn, gn = wo.heap.size := ⟨_, rfl⟩
              rw [← hgn] at hown ⊢
              have HM4 : Hid (MW w w4 ga gw gn n i o (Bk.vec fun x => Bk.many k (Bk.pl x)) (Bk.vec (Bk.row k 0 0))) :=
                HM.out.made hgrow rfl (by rw [Bk.row_zero]; exact own_base (base := gn) hown (by rw [hgn]; exact HM.out.bel.size))
              have HGN : Hid (w.heap.size < gn ∧ gn ≠ ga ∧ gn ≠ gw) := by have := HM.out.lts; exact ⟨by omega, by omega, by omega⟩
              clear hown hgrow hgn HM
              go_wp2_with fail
              go_loopw [10] (fun x wq => ∃ i' : Nat, i' ≤ 5 ∧ x = .int .i64 i' ∧ Hid (MW w wq ga gw gn n i o (Bk.vec fun x => Bk.many k (Bk.pl x)) (Bk.vec (Bk.row k i' 0)))) (fun x _ => 5 - (intOf x).toNat)
              case atStart => exact ⟨0, by omega, rfl, HM4⟩
              case round =>
                clear HM4
                obtain ⟨i', hi', rfl, HM⟩ := hrel
                by_cases hlt5 : i' < 5
                · obtain ⟨b0, b1, b2⟩ := HM.out.all.at_ hlt5
                  have hs5 : Bk.pl i' < 5 := Bk.pl_lt hlt5
                  have HNL := Lib.hid (Bk.next_nl hs5)
                  obtain ⟨LS, hLS⟩ : ∃ LS, LS = mkS (Bk.nl (Bk.pl i')) := ⟨_, rfl⟩
                  have HLS := Lib.hid hLS
                  have HLL : Hid (LS.toList = Bk.nl (Bk.pl i')) := by unfold Hid; rw [hLS, mkS_toList]
                  have hlz : LS.size ≤ 2 := by rw [hLS, mkS_size]; exact (Bk.nl_len hs5).2
                  have HLZ : Hid (LS.size = (Bk.nl (Bk.pl i')).length) := by unfold Hid; rw [hLS, mkS_size]
                  clear hLS
                  go_wp2_with fail
                  refine (specBlockNext_any _ _ _ _).mono ?_
                  rintro e w5 ⟨rfl, hb5⟩
                  rw [HNL.out, ← HLS.out]
                  have HM5 := Lib.hid (HM.out.later hb5)
                  clear hb5 HM b0 b1 b2
                  go_wp2_with fail
                  go_loopw [12] (fun x wt => ∃ j : Nat, j ≤ LS.size ∧ x = .int .i64 j ∧ Hid (MW w wt ga gw gn n i o (Bk.vec fun x => Bk.many k (Bk.pl x)) (Bk.vec (Bk.row k i' j)))) (fun x _ => LS.size - (intOf x).toNat)
                  case atStart => exact ⟨0, by omega, rfl, HM5⟩
                  case round =>
                    clear HM5
                    obtain ⟨j, hj, rfl, HM⟩ := hrel
                    by_cases hltj : j < LS.size
                    · obtain ⟨c, hc⟩ : ∃ c, c = (LS[j]'hltj) := ⟨_, rfl⟩
                      have hbt : (LS[j]'hltj).toNat < 256 := (LS[j]'hltj).toNat_lt
                      have HC : Hid ((Bk.nl (Bk.pl i'))[j]? = some c) := by unfold Hid; rw [← HLL.out, hc]; exact str_at' LS j hltj
                      obtain ⟨hst, hgo⟩ := Bk.nl_step hs5 (List.mem_of_getElem? HC.out)
                      obtain ⟨u, hu⟩ : ∃ u, u = Bk.go (Bk.pl i') c := ⟨_, rfl⟩
                      rw [← hu] at hst hgo
                      have HRes : Hid (resV (Bk.step (Bk.pl i') (LS[j]'hltj).toNat) = .tuple #[bv (Bk.nd u) (Bk.ins u) (Bk.off u), .bool true]) := by unfold Hid; rw [← hc, hst]; rfl
                      have HU := Lib.hid hgo
                      have HY : Hid (Bk.ns (Bk.many k) (Bk.pl i') (j + 1) = Bk.ns (Bk.many k) (Bk.pl i') j + Bk.many k u) := by unfold Hid; rw [hu]; exact Bk.ns_next _ HC.out
                      obtain ⟨y0, y1⟩ := Bk.ns_bd (g := Bk.many k) (fun t => Bk.many_small (by omega)) (Bk.pl i') j (by omega)
                      obtain ⟨z0, z1⟩ := Bk.many_small (n := k) (s := u) (by omega)
                      have hY0 := Bk.row_at (k := k) (j := j) hlt5
                      have hZ0 := Bk.vec_at (fun x => Bk.many k (Bk.pl x)) (Bk.pl_lt hgo)
                      simp only [Bk.pl_pl hgo] at hZ0
                      have hset := Bk.row_set (k := k) (j := j) hlt5
                      rw [HY.out] at hset
                      have HSET := Lib.hid hset
                      have HY0 := Lib.hid hY0
                      have HZ0 := Lib.hid hZ0
                      clear hst hc hu hY0 hZ0 hset HY
                      generalize Bk.ns (Bk.many k) (Bk.pl i') j = y at y0 y1 HSET HY0
                      generalize Bk.many k u = z at z0 z1 HSET HZ0
                      have hwr := i64w (x := y + z) (by omega) (by omega)
                      have hi0 : (0 : Int) ≤ i' := by omega
                      have hi1 : (i' : Int) < 5 := by omega
                      have hj0 : (0 : Int) ≤ j := by omega
                      have hj1 : (j : Int) < LS.size := by omega
                      have hp0 : (0 : Int) ≤ (Bk.pl u : Nat) := by omega
                      have hp1 : ((Bk.pl u : Nat) : Int) < 5 := by have := Bk.pl_lt hgo; omega
                      obtain ⟨b0, b1, b2⟩ := HM.out.all.at_ hlt5
                      have e0 : ∀ o', (wr.drew.alloc o').cell? ⟨ga, i' * 3, none⟩ = some (.int .i64 (Bk.nd (Bk.pl i'))) := fun o' => ((HM.out.drew.alloc o').all.at_ hlt5).1
                      have e1 : ∀ o', (wr.drew.alloc o').cell? ⟨ga, i' * 3 + 1, none⟩ = some (.bool (Bk.ins (Bk.pl i'))) := fun o' => ((HM.out.drew.alloc o').all.at_ hlt5).2.1
                      have e2 : ∀ o', (wr.drew.alloc o').cell? ⟨ga, i' * 3 + 2, none⟩ = some (.bool (Bk.off (Bk.pl i'))) := fun o' => ((HM.out.drew.alloc o').all.at_ hlt5).2.2
                      obtain ⟨l0, l1, l2, l3⟩ := HM.out.lts
                      have hne1 : ¬ ga = wr.heap.size := by omega
                      go_wp2_with fail
                      go_region_with (first | (go_at_call 67; refine (l3Step_any (Bk.pl i') _ _ hs5 (by assumption)).mono ?_; rintro e w3 ⟨rfl, hb3⟩; rw [HRes.out]; have HM3 : Hid (MW w w3 ga gw gn n i o (Bk.vec fun x => Bk.many k (Bk.pl x)) (Bk.vec (Bk.row k i' j))) := (by first | exact HM.out.drew.later hb3 | exact (HM.out.drew.alloc _).later hb3); have hlt4 : wr.heap.size ≤ w3.heap.size := (by first | exact hb3.size | exact Nat.le_trans (by simp) hb3.size); (try (have HNx : Hid (Room w3 wr.heap.size (.int .i64 0) (.bool false) (.bool false)) := (by exact (room_new _ _ _ _ _).later hb3); obtain ⟨x0, x1, x2, v0, v1, v2⟩ := HNx.out)); clear hb3 b0 b1 b2 e0 e1 e2))
                      all_goals go_wp2_with fail
                      all_goals first
                        | (have HX4 : Hid (Room (((w3.setCell ⟨wr.heap.size, 0, none⟩ (.int .i64 (Bk.nd u))).setCell ⟨wr.heap.size, 1, none⟩ (.bool (Bk.ins u))).setCell ⟨wr.heap.size, 2, none⟩ (.bool (Bk.off u))) wr.heap.size (.int .i64 (Bk.nd u)) (.bool (Bk.ins u)) (.bool (Bk.off u))) := HNx.out.set3 (.int .i64 (Bk.nd u)) (.bool (Bk.ins u)) (.bool (Bk.off u))
                           have HM4 : Hid (MW w (((w3.setCell ⟨wr.heap.size, 0, none⟩ (.int .i64 (Bk.nd u))).setCell ⟨wr.heap.size, 1, none⟩ (.bool (Bk.ins u))).setCell ⟨wr.heap.size, 2, none⟩ (.bool (Bk.off u))) ga gw gn n i o (Bk.vec fun x => Bk.many k (Bk.pl x)) (Bk.vec (Bk.row k i' j))) := HM3.out.set3 (X := wr.heap.size) ⟨l0, by omega, by omega, by omega⟩ (.int .i64 (Bk.nd u)) (.bool (Bk.ins u)) (.bool (Bk.off u))
                           generalize (((w3.setCell ⟨wr.heap.size, 0, none⟩ (.int .i64 (Bk.nd u))).setCell ⟨wr.heap.size, 1, none⟩ (.bool (Bk.ins u))).setCell ⟨wr.heap.size, 2, none⟩ (.bool (Bk.off u))) = W4 at HX4 HM4 ⊢
                           generalize wr.heap.size = X4 at HX4 ⊢)
                        | (have HX4 := Lib.hid (mroom w3 (.int .i64 (Bk.nd u)) (.bool (Bk.ins u)) (.bool (Bk.off u)) 34)
                           have HM4 := Lib.hid (HM3.out.alloc (.cells #[.int .i64 (Bk.nd u), .bool (Bk.ins u), .bool (Bk.off u)] 34))
                           generalize w3.alloc (.cells #[.int .i64 (Bk.nd u), .bool (Bk.ins u), .bool (Bk.off u)] 34) = W4 at HX4 HM4 ⊢
                           generalize w3.heap.size = X4 at HX4 ⊢)
                      all_goals obtain ⟨c0, c1, c2, _, _, _⟩ := HX4.out
                      all_goals have nx4 := HM4.out.nxt HY0.out
                      all_goals clear HM HM3 hlt4 l0 l1 l2 l3 hne1
                      all_goals go_region_with (first | (go_at_call 69; refine (l3Index_any _ _ HU.out).mono ?_; rintro e w5 ⟨rfl, hb5⟩; have HM5 : Hid (MW w w5 ga gw gn n i o (Bk.vec fun x => Bk.many k (Bk.pl x)) (Bk.vec (Bk.row k i' j))) := HM4.out.drew.later hb5; have nx5 := HM5.out.nxt HY0.out; have fz5 := HM5.out.next.frozenAt i'; have wy5 := HM5.out.way HZ0.out; clear hb5))
                      all_goals go_wp2_with fail
                      all_goals (try clear c0 c1 c2 nx4)
                      all_goals go_roundw
                      all_goals first
                        | (simp [intOf]; omega)
                        | exact ⟨j + 1, by omega, by go_num, by have h1 := HM5.out.put HGN.out i' (y + z); rw [HSET.out] at h1; exact h1⟩
                    · have hjn : j = LS.size := by omega
                      have HM5 : Hid (MW w wr ga gw gn n i o (Bk.vec fun x => Bk.many k (Bk.pl x)) (Bk.vec (Bk.row k (i' + 1) 0))) := by
                        have h1 := HM.out
                        rw [hjn, HLZ.out, Bk.row_done hlt5] at h1
                        exact h1
                      clear HM
                      go_wp2_with fail
                      go_roundw
                      case rel => exact ⟨i' + 1, by omega, by go_num, HM5⟩
                      case measure => simp [intOf]; omega
                · have hi5 : i' = 5 := by omega
                  subst hi5
                  have HM5 : Hid (MW w wr ga gn gn n i o (Bk.vec fun x => Bk.many (k + 1) (Bk.pl x)) (Bk.vec fun x => Bk.many (k + 1) (Bk.pl x))) := by
                    have h1 := HM.out.swap
                    rw [Bk.row_full] at h1
                    exact h1
                  clear HM
                  go_wp2_with fail
                  go_roundw
                  case rel => exact ⟨k + 1, gn, by omega, by go_num, rfl, ⟨HGN.out.1, HGN.out.2.1⟩, HM5⟩
                  case measure => simp [intOf]; omega
            · obtain rfl : k = N := by omega
              obtain ⟨b0, b1, b2, _, _, _⟩ := HM.out.box
              have hp5 := Bk.pl_lt hq5
              obtain ⟨en, ei, eo⟩ := HQN.out
              go_wp2_with fail
              rw [← en, ← ei, ← eo]
              refine (l3Index_any q _ hq5).mono ?_
              rintro e w5 ⟨rfl, hb5⟩
              have HM5 := Lib.hid (HM.out.later hb5)
              clear hb5 HM b0 b1 b2
              have hway := HM5.out.way (Bk.vec_at _ hp5)
              simp only [Bk.pl_pl hq5] at hway
              go_wp2_with fail
              go_ret
              exact ⟨by rw [HN.out]; rfl, HM5.out.bel⟩
    · have HN := Lib.hid (Bk.manyR_out (m := m) h30 n i o)
      have HO : Hid (m < 0 ∨ 30 < m) := by unfold Hid; omega
      clear h30
      go_enter Try.func38, Try.ntmps38
      go_wp2_with fail
      refine (specBlockPossible_any _ _ _ _).mono ?_
      rintro e w1 ⟨rfl, hb1⟩
      have Hb1 := Lib.hid hb1
      clear hb1
      rw [HP.out]
      go_wp2_with fail
      refine (l6In_no _ _ _ _ HO.out).mono ?_
      rintro e w1' ⟨rfl, rfl⟩
      go_wp2_with fail
      go_ret
      exact ⟨by rw [HN.out]; rfl, below_seq ((Below.refl w.heap.size w).alloc (Nat.le_refl _) _) Hb1.out⟩
end Go.Proofs.Ytlneedjhdnjnpaa
