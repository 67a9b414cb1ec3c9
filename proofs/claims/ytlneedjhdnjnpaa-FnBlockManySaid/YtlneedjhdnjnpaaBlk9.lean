/-
  Contract: BlockRun of the reference.
  Conditions: none.
-/
import Derived.Test.YtlneedjhdnjnpaaBlk8
namespace Go.Proofs.Ytlneedjhdnjnpaa
open Go.RowKit
set_option linter.unusedVariables false
attribute [local go_sem ↓] Go.wp_at_zero Go.wp_at_succ run_eql_block run_neq_block

/-- A block of three cells that can be written. -/
def Room (w : World) (B : Nat) (v0 v1 v2 : Value) : Prop :=
  w.cell? ⟨B, 0, none⟩ = some v0 ∧ w.cell? ⟨B, 1, none⟩ = some v1 ∧ w.cell? ⟨B, 2, none⟩ = some v2 ∧ w.frozen? ⟨B, 0, none⟩ = false ∧ w.frozen? ⟨B, 1, none⟩ = false ∧ w.frozen? ⟨B, 2, none⟩ = false
theorem Room.later {w1 w3 : World} {B : Nat} {v0 v1 v2 : Value} (h : Room w1 B v0 v1 v2) (hb3 : Below w1.heap.size w1 w3) : Room w3 B v0 v1 v2 := room_later h hb3
theorem Room.lt {w1 : World} {B : Nat} {v0 v1 v2 : Value} (h : Room w1 B v0 v1 v2) : B < w1.heap.size := block_lt_of_cell h.1
theorem Room.alloc {w1 : World} {B : Nat} {v0 v1 v2 : Value} (h : Room w1 B v0 v1 v2) (o : Obj) : Room (w1.alloc o) B v0 v1 v2 :=
  h.later ((Below.refl _ _).alloc (Nat.le_refl _) o)
theorem Room.drew {w1 : World} {B : Nat} {v0 v1 v2 : Value} (h : Room w1 B v0 v1 v2) : Room w1.drew B v0 v1 v2 := h
theorem box_room {w w1 : World} {o2 : Obj} {t : TypeId} {v0 v1 v2 : Value} (hb : Below (w.heap.size + 1 + 1) ((w.alloc (.cells #[v0, v1, v2] t)).alloc o2) w1) : Room w1 w.heap.size v0 v1 v2 := by
  refine ⟨?_, ?_, ?_, ?_, ?_, ?_⟩
  · exact (hb.cell (p := ⟨w.heap.size, 0, none⟩) (show w.heap.size < _ by omega)).trans (by simp [go_sem])
  · exact (hb.cell (p := ⟨w.heap.size, 1, none⟩) (show w.heap.size < _ by omega)).trans (by simp [go_sem])
  · exact (hb.cell (p := ⟨w.heap.size, 2, none⟩) (show w.heap.size < _ by omega)).trans (by simp [go_sem])
  · exact (hb.frozen (p := ⟨w.heap.size, 0, none⟩) (show w.heap.size < _ by omega)).trans (by simp [go_sem])
  · exact (hb.frozen (p := ⟨w.heap.size, 1, none⟩) (show w.heap.size < _ by omega)).trans (by simp [go_sem])
  · exact (hb.frozen (p := ⟨w.heap.size, 2, none⟩) (show w.heap.size < _ by omega)).trans (by simp [go_sem])

theorem room_new (w : World) (v0 v1 v2 : Value) (t : TypeId) : Room (w.drew.alloc (.cells #[v0, v1, v2] t)) w.heap.size v0 v1 v2 := by
  refine ⟨?_, ?_, ?_, ?_, ?_, ?_⟩ <;> simp [go_sem]
/-- The world behind a write of a whole block of three cells. -/
abbrev set3 (w : World) (B : Nat) (v0 v1 v2 : Value) : World := ((w.setCell ⟨B, 0, none⟩ v0).setCell ⟨B, 1, none⟩ v1).setCell ⟨B, 2, none⟩ v2
theorem Room.set3 {w : World} {B : Nat} {a b c : Value} (h : Room w B a b c) (v0 v1 v2 : Value) : Room (set3 w B v0 v1 v2) B v0 v1 v2 := by
  obtain ⟨h0, h1, h2, f0, f1, f2⟩ := h
  unfold Go.Proofs.Ytlneedjhdnjnpaa.set3
  refine ⟨?_, ?_, ?_, ?_, ?_, ?_⟩ <;> simp [go_sem, h0, h1, h2, f0, f1, f2]
theorem Room.far3 {w : World} {B B' : Nat} {a b c : Value} (h : Room w B a b c) (hne : ¬ B = B') (v0 v1 v2 : Value) : Room (Go.Proofs.Ytlneedjhdnjnpaa.set3 w B' v0 v1 v2) B a b c := by
  have hne' : ¬ B' = B := fun e => hne e.symm
  obtain ⟨h0, h1, h2, f0, f1, f2⟩ := h
  unfold Go.Proofs.Ytlneedjhdnjnpaa.set3
  refine ⟨?_, ?_, ?_, ?_, ?_, ?_⟩ <;> simp [go_sem, h0, h1, h2, f0, f1, f2]
set_option maxHeartbeats 4000000 in
theorem specBlockRun_any (n : Int) (i o : Bool) (s : ByteArray) (w : World) (hsz : s.size ≤ maxLen) :
    Calls Try.prog 51 #[bv n i o, .string s] w fun e w' => e = .returned (resV (Bk.runR n i o s.toList)) ∧ Below w.heap.size w w' := by
  unfold maxLen at hsz
  cases hst : Bk.stOf n i o with
  | none =>
    have HP : Hid (Bk.possible n i o = false) := by unfold Hid Bk.possible; rw [hst]; rfl
    have HR : Hid (resV (Bk.runR n i o s.toList) = .tuple #[bv 0 false false, .bool false]) := by unfold Hid; rw [Bk.runR_none hst]; rfl
    clear hst
    go_enter Try.func51, Try.ntmps51
    go_wp2_with fail
    refine (specBlockPossible_any _ _ _ _).mono ?_
    rintro e w1 ⟨rfl, hb1⟩
    simp only [World.size_alloc] at hb1
    obtain ⟨r0, r1, r2, f0, f1, f2⟩ := room_facts hb1
    have Hbw := Lib.hid (below_box2 hb1)
    clear hb1
    rw [HP.out]
    go_wp2_with fail
    refine bodyPost_ret (v := .tuple #[bv 0 false false, .bool false]) (by simp [results, Try.results51, go_sem, r0, r1, r2]) rfl ?_
    refine ⟨by rw [HR.out], ?_⟩
    have hb4 := Hbw.out
    go_grown
  | some q =>
    have hq5 : q < 5 := (Bk.stOf_lt hst).1
    have HP : Hid (Bk.possible n i o = true) := by unfold Hid Bk.possible; rw [hst]; rfl
    by_cases h30 : s.size ≤ 30
    · have HR : Hid (Bk.runR n i o s.toList = Bk.runS q s.toList) := by unfold Hid; rw [Bk.runR_some hst (by rw [str_len']; exact h30)]
      obtain ⟨en, ei, eo⟩ := (Bk.stOf_lt hst).2
      clear hst
      subst en ei eo
      go_enter Try.func51, Try.ntmps51
      go_wp2_with fail
      refine (specBlockPossible_any _ _ _ _).mono ?_
      rintro e w1 ⟨rfl, hb1⟩
      simp only [World.size_alloc] at hb1
      have HRm : Hid (Room w1 (w.heap.size + 1) _ _ _) := room_facts hb1
      have HBx := Lib.hid (box_room hb1)
      have Hbw := Lib.hid (below_box2 hb1)
      clear hb1
      rw [HP.out]
      go_wp2_with fail
      go_loopw [6] (fun i wr => ∃ k t : Nat, k ≤ s.size ∧ t < 5 ∧ i = .int .i64 k ∧ Hid (Bk.runS q (s.toList.take k) = some t) ∧ Hid (Room wr (w.heap.size + 1) (.int .i64 0) (.bool false) (.bool false)) ∧ Hid (Room wr w.heap.size (.int .i64 (Bk.nd t)) (.bool (Bk.ins t)) (.bool (Bk.off t))) ∧ Hid (Below w.heap.size w wr)) (fun i _ => s.size - (intOf i).toNat)
      case atStart => exact ⟨0, q, by omega, hq5, rfl, rfl, HRm, HBx, Hbw⟩
      case round =>
        clear HRm HBx Hbw
        obtain ⟨k, t, hk, ht5, rfl, HT, HRm, HBx, Hbw⟩ := hrel
        by_cases hlt : k < s.size
        · have hbt : (s[k]'hlt).toNat < 256 := (s[k]'hlt).toNat_lt
          have HC := Lib.hid (str_at' s k hlt)
          obtain ⟨b0, b1, b2, _, _, _⟩ := HBx.out
          have hlt2 : w.heap.size + 1 < wr.heap.size := HRm.out.lt
          have hne2 : ¬ w.heap.size = wr.heap.size := by omega
          have hne3 : ¬ w.heap.size + 1 = wr.heap.size := by omega
          have e0 : ∀ o, (wr.drew.alloc o).cell? ⟨w.heap.size, 0, none⟩ = some (.int .i64 (Bk.nd t)) := fun o => (HBx.out.drew.alloc o).1
          have e1 : ∀ o, (wr.drew.alloc o).cell? ⟨w.heap.size, 1, none⟩ = some (.bool (Bk.ins t)) := fun o => (HBx.out.drew.alloc o).2.1
          have e2 : ∀ o, (wr.drew.alloc o).cell? ⟨w.heap.size, 2, none⟩ = some (.bool (Bk.off t)) := fun o => (HBx.out.drew.alloc o).2.2.1
          have hlt3 : w.heap.size < wr.heap.size := by omega
          cases hst2 : Bk.step t (s[k]'hlt).toNat with
          | none =>
            have HR2 : Hid (resV (Bk.runR (Bk.nd q) (Bk.ins q) (Bk.off q) s.toList) = .tuple #[bv 0 false false, .bool false]) := by unfold Hid; rw [HR.out, Bk.runS_stop HC.out HT.out hst2]; rfl
            have HRes : Hid (resV (Bk.step t (s[k]'hlt).toNat) = .tuple #[bv 0 false false, .bool false]) := by unfold Hid; rw [hst2]; rfl
            clear hst2
            go_wp2_with fail
            go_region_with (first | (go_at_call 67; refine (l3Step_any t _ _ (by exact ht5) (by assumption)).mono ?_; rintro e w3 ⟨rfl, hb3⟩; rw [HRes.out]; have HRm3 : Hid (Room w3 (w.heap.size + 1) (.int .i64 0) (.bool false) (.bool false)) := (by first | exact HRm.out.drew.later hb3 | exact (HRm.out.drew.alloc _).later hb3); have HBx3 : Hid (Room w3 w.heap.size (.int .i64 (Bk.nd t)) (.bool (Bk.ins t)) (.bool (Bk.off t))) := (by first | exact HBx.out.drew.later hb3 | exact (HBx.out.drew.alloc _).later hb3); obtain ⟨x0, x1, x2, y0, y1, y2⟩ := HBx3.out; obtain ⟨q0, q1, q2, g0, g1, g2⟩ := HRm3.out; have hlt4 : w.heap.size + 1 < w3.heap.size := HRm3.out.lt; have hlt5 : w.heap.size < w3.heap.size := (by omega); have hne4 : ¬ w.heap.size = w3.heap.size := (by omega); have hne5 : ¬ w.heap.size + 1 = w3.heap.size := (by omega); have Hb4 : Hid (Below w.heap.size w w3) := (by first | exact below_seq Hbw.out.drew hb3 | exact below_seq (Hbw.out.drew.alloc (by simp only [World.size_drew]; omega) _) hb3); (try (have HNx : Hid (Room w3 wr.heap.size (.int .i64 0) (.bool false) (.bool false)) := (by exact (room_new _ _ _ _ _).later hb3); obtain ⟨z0, z1, z2, v0, v1, v2⟩ := HNx.out)); clear hb3 b0 b1 b2 e0 e1 e2))
            all_goals go_wp2_with fail
            all_goals refine bodyPost_ret (v := .tuple #[bv 0 false false, .bool false]) (by simp [results, Try.results51, go_sem, *]) rfl ?_
            all_goals refine ⟨by rw [HR2.out], ?_⟩
            all_goals have hb4 := Hb4.out
            all_goals go_grown
          | some u =>
            have hu5 : u < 5 := Bk.step_lt hst2
            have HT2 : Hid (Bk.runS q (s.toList.take (k + 1)) = some u) := by unfold Hid; exact Bk.runS_next HC.out HT.out hst2
            have HRes : Hid (resV (Bk.step t (s[k]'hlt).toNat) = .tuple #[bv (Bk.nd u) (Bk.ins u) (Bk.off u), .bool true]) := by unfold Hid; rw [hst2]; rfl
            clear hst2
            go_wp2_with fail
            go_region_with (first | (go_at_call 67; refine (l3Step_any t _ _ (by exact ht5) (by assumption)).mono ?_; rintro e w3 ⟨rfl, hb3⟩; rw [HRes.out]; have HRm3 : Hid (Room w3 (w.heap.size + 1) (.int .i64 0) (.bool false) (.bool false)) := (by first | exact HRm.out.drew.later hb3 | exact (HRm.out.drew.alloc _).later hb3); have HBx3 : Hid (Room w3 w.heap.size (.int .i64 (Bk.nd t)) (.bool (Bk.ins t)) (.bool (Bk.off t))) := (by first | exact HBx.out.drew.later hb3 | exact (HBx.out.drew.alloc _).later hb3); obtain ⟨x0, x1, x2, y0, y1, y2⟩ := HBx3.out; obtain ⟨q0, q1, q2, g0, g1, g2⟩ := HRm3.out; have hlt4 : w.heap.size + 1 < w3.heap.size := HRm3.out.lt; have hlt5 : w.heap.size < w3.heap.size := (by omega); have hne4 : ¬ w.heap.size = w3.heap.size := (by omega); have hne5 : ¬ w.heap.size + 1 = w3.heap.size := (by omega); have Hb4 : Hid (Below w.heap.size w w3) := (by first | exact below_seq Hbw.out.drew hb3 | exact below_seq (Hbw.out.drew.alloc (by simp only [World.size_drew]; omega) _) hb3); (try (have HNx : Hid (Room w3 wr.heap.size (.int .i64 0) (.bool false) (.bool false)) := (by exact (room_new _ _ _ _ _).later hb3); obtain ⟨z0, z1, z2, v0, v1, v2⟩ := HNx.out)); clear hb3 b0 b1 b2 e0 e1 e2))
            all_goals go_wp2_with fail
            all_goals go_round
            all_goals first
              | (simp [intOf]; omega)
              | (refine ⟨k + 1, u, by omega, hu5, by go_num, HT2, ?_, ?_, ?_⟩
                 · show Room _ _ _ _ _
                   first
                   | (with_reducible refine Room.alloc ?_ _; with_reducible exact Room.far3 HRm3.out (by omega) _ _ _)
                   | (with_reducible refine Room.far3 (Room.far3 HRm3.out ?_ _ _ _) ?_ _ _ _ <;> omega)
                 · show Room _ _ _ _ _
                   first
                   | (with_reducible refine Room.alloc ?_ _; with_reducible exact Room.set3 HBx3.out _ _ _)
                   | (with_reducible refine Room.set3 (Room.far3 HBx3.out ?_ _ _ _) _ _ _; omega)
                 · have hb4 := Hb4.out
                   show Below _ _ _
                   go_grown)
        · have hkk : k = s.size := by omega
          have HE2 : Hid (resV (Bk.runR (Bk.nd q) (Bk.ins q) (Bk.off q) s.toList) = .tuple #[bv (Bk.nd t) (Bk.ins t) (Bk.off t), .bool true]) := by
            unfold Hid
            have h1 := HT.out
            rw [List.take_of_length_le (by rw [str_len']; omega)] at h1
            rw [HR.out, h1]; rfl
          subst hkk
          clear hlt HT
          obtain ⟨q0, q1, q2, g0, g1, g2⟩ := HRm.out
          obtain ⟨x0, x1, x2, y0, y1, y2⟩ := HBx.out
          go_wp2_with fail
          refine bodyPost_ret (v := .tuple #[bv (Bk.nd t) (Bk.ins t) (Bk.off t), .bool true]) (by simp [results, Try.results51, go_sem, q0, q1, q2]) rfl ?_
          refine ⟨by rw [HE2.out], ?_⟩
          have hb4 := Hbw.out
          go_grown
    · have HR : Hid (resV (Bk.runR n i o s.toList) = .tuple #[bv 0 false false, .bool false]) := by unfold Hid; rw [Bk.runR_long (by rw [str_len']; omega)]; rfl
      have hb1s : (30 : Int) < s.size := by omega
      clear h30 hst
      go_enter Try.func51, Try.ntmps51
      go_wp2_with fail
      refine (specBlockPossible_any _ _ _ _).mono ?_
      rintro e w1 ⟨rfl, hb1⟩
      simp only [World.size_alloc] at hb1
      obtain ⟨r0, r1, r2, f0, f1, f2⟩ := room_facts hb1
      have Hbw := Lib.hid (below_box2 hb1)
      clear hb1
      rw [HP.out]
      go_wp2_with fail
      refine bodyPost_ret (v := .tuple #[bv 0 false false, .bool false]) (by simp [results, Try.results51, go_sem, r0, r1, r2]) rfl ?_
      refine ⟨by rw [HR.out], ?_⟩
      have hb4 := Hbw.out
      go_grown
end Go.Proofs.Ytlneedjhdnjnpaa
