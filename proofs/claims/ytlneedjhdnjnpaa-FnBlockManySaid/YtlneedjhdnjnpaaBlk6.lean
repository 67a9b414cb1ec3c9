/-
  Contracts: BlockStep of the program and of the reference; the walk of the law FnExactBlockStep.
  Conditions: none.
-/
import Derived.Test.YtlneedjhdnjnpaaBlk4
import Derived.Test.YtlneedjhdnjnpaaBlk5
namespace Go.Proofs.Ytlneedjhdnjnpaa
open Go.RowKit
set_option linter.unusedVariables false
attribute [local go_sem ↓] Go.wp_at_zero Go.wp_at_succ run_eql_block run_neq_block

theorem str_at' (s : ByteArray) (k : Nat) (h : k < s.size) : s.toList[k]? = some s[k] := by
  rw [ByteArray.toList_eq, List.getElem?_eq_getElem (by simpa using h)]
  simp [ByteArray.getElem_eq_getElem_data]
theorem str_len' (s : ByteArray) : s.toList.length = s.size := by rw [ByteArray.toList_eq]; simp
theorem str_one (s : ByteArray) (h : s.size = 1) : s.toList = [s[0]] := by
  have h1 := str_len' s
  have h2 := str_at' s 0 (by omega)
  match hl : s.toList, h1 with
  | [c], _ => rw [hl] at h2; simp at h2; rw [h2]
  | [], h1 => simp at h1; omega
  | _ :: _ :: _, h1 => simp at h1; omega
/-- The box of a parameter and the room for a result, in a later world. -/
theorem room_facts {w w1 : World} {o1 : Obj} {t : TypeId} {v0 v1 v2 : Value} (hb : Below (w.heap.size + 1 + 1) ((w.alloc o1).alloc (.cells #[v0, v1, v2] t)) w1) :
    w1.cell? ⟨w.heap.size + 1, 0, none⟩ = some v0 ∧ w1.cell? ⟨w.heap.size + 1, 1, none⟩ = some v1 ∧ w1.cell? ⟨w.heap.size + 1, 2, none⟩ = some v2 ∧
    w1.frozen? ⟨w.heap.size + 1, 0, none⟩ = false ∧ w1.frozen? ⟨w.heap.size + 1, 1, none⟩ = false ∧ w1.frozen? ⟨w.heap.size + 1, 2, none⟩ = false := by
  refine ⟨?_, ?_, ?_, ?_, ?_, ?_⟩
  · exact (hb.cell (p := ⟨w.heap.size + 1, 0, none⟩) (show w.heap.size + 1 < _ by omega)).trans (by simp [go_sem])
  · exact (hb.cell (p := ⟨w.heap.size + 1, 1, none⟩) (show w.heap.size + 1 < _ by omega)).trans (by simp [go_sem])
  · exact (hb.cell (p := ⟨w.heap.size + 1, 2, none⟩) (show w.heap.size + 1 < _ by omega)).trans (by simp [go_sem])
  · exact (hb.frozen (p := ⟨w.heap.size + 1, 0, none⟩) (show w.heap.size + 1 < _ by omega)).trans (by simp [go_sem])
  · exact (hb.frozen (p := ⟨w.heap.size + 1, 1, none⟩) (show w.heap.size + 1 < _ by omega)).trans (by simp [go_sem])
  · exact (hb.frozen (p := ⟨w.heap.size + 1, 2, none⟩) (show w.heap.size + 1 < _ by omega)).trans (by simp [go_sem])

set_option maxHeartbeats 4000000 in
theorem implBlockStep_any (n : Int) (i o : Bool) (s : ByteArray) (w : World) (hsz : s.size ≤ maxLen) :
    Calls Try.prog 32 #[bv n i o, .string s] w fun e w' => e = .returned (resV (Bk.stepR n i o s.toList)) ∧ Below w.heap.size w w' := by
  unfold maxLen at hsz
  cases hst : Bk.stOf n i o with
  | none =>
    have HE := Lib.hid (instV_none hst)
    have HR : Hid (resV (Bk.stepR n i o s.toList) = .tuple #[bv 0 false false, .bool false]) := by unfold Hid; rw [Bk.stepR_none hst]; rfl
    clear hst
    go_enter Try.func32, Try.ntmps32
    go_wp2_with fail
    refine (instrumentOf_any _ _ _ _).mono ?_
    rintro e w1 ⟨rfl, hb1⟩
    simp only [World.size_alloc] at hb1
    obtain ⟨r0, r1, r2, f0, f1, f2⟩ := room_facts hb1
    have hbw := below_box2 hb1
    have Hbw := Lib.hid hbw
    clear hb1 hbw
    rw [HE.out]
    go_wp2_with fail
    refine bodyPost_ret (v := .tuple #[bv 0 false false, .bool false]) (by simp [results, Try.results32, go_sem, r0, r1, r2]) rfl ?_
    refine ⟨by rw [HR.out], ?_⟩
    have hb4 := Hbw.out
    go_grown
  | some q =>
    have hq5 : q < 5 := (Bk.stOf_lt hst).1
    have HE := Lib.hid (instV_some hst)
    by_cases h1 : s.size = 1
    · have hone := str_one s h1
      have hs1 : 0 < s.size := by omega
      have HR : Hid (Bk.stepR n i o s.toList = Bk.step q (s[0]'hs1).toNat) := by unfold Hid; rw [hone, Bk.stepR_some hst]
      have hb1s : ((s.size : Int) != 1) = false := by simp; omega
      have hs2 : s.size ≤ 1 := by omega
      have hbt : (s[0]'hs1).toNat < 256 := (s[0]'hs1).toNat_lt
      clear hone h1 hst
      go_enter Try.func32, Try.ntmps32
      go_wp2_with fail
      refine (instrumentOf_any _ _ _ _).mono ?_
      rintro e w1 ⟨rfl, hb1⟩
      simp only [World.size_alloc] at hb1
      obtain ⟨r0, r1, r2, f0, f1, f2⟩ := room_facts hb1
      have Hbw := Lib.hid (below_box2 hb1)
      clear hb1
      rw [HE.out]
      go_wp2_with fail
      refine (stateBehind_any q _ _ hq5 hbt).mono ?_
      rintro e w2 ⟨rfl, rfl⟩
      cases hst2 : Bk.step q (s[0]'hs1).toNat with
      | none =>
        have HR2 : Hid (resV (Bk.stepR n i o s.toList) = .tuple #[bv 0 false false, .bool false]) := by unfold Hid; rw [HR.out, hst2]; rfl
        rw [behV_none hst2]
        clear hst2
        go_wp2_with fail
        refine bodyPost_ret (v := .tuple #[bv 0 false false, .bool false]) (by simp [results, Try.results32, go_sem, r0, r1, r2]) rfl ?_
        refine ⟨by rw [HR2.out], ?_⟩
        have hb4 := Hbw.out
        go_grown
      | some t =>
        have ht5 : t < 5 := Bk.step_lt hst2
        have HE2 : Hid (resV (Bk.stepR n i o s.toList) = .tuple #[bv (Bk.nd t) (Bk.ins t) (Bk.off t), .bool true]) := by unfold Hid; rw [HR.out, hst2]; rfl
        rw [behV_some hst2]
        clear hst2
        have : t = 0 ∨ t = 1 ∨ t = 2 ∨ t = 3 ∨ t = 4 := by omega
        rcases this with rfl | rfl | rfl | rfl | rfl
        · rw [show stV 0 = Value.iface 102 (.agg #[]) from rfl]
          go_wp2_with (first | (go_at_call 114; refine (normalB_any _).mono ?_; rintro e w3 ⟨rfl, hb3⟩; have Hb3 := Lib.hid hb3; have q0 := (hb3.cell (p := ⟨w.heap.size + 1, 0, none⟩) (block_lt_of_cell r0)).trans r0; have q1 := (hb3.cell (p := ⟨w.heap.size + 1, 1, none⟩) (block_lt_of_cell r1)).trans r1; have q2 := (hb3.cell (p := ⟨w.heap.size + 1, 2, none⟩) (block_lt_of_cell r2)).trans r2; have g0 := (hb3.frozen (p := ⟨w.heap.size + 1, 0, none⟩) (block_lt_of_cell r0)).trans f0; have g1 := (hb3.frozen (p := ⟨w.heap.size + 1, 1, none⟩) (block_lt_of_cell r1)).trans f1; have g2 := (hb3.frozen (p := ⟨w.heap.size + 1, 2, none⟩) (block_lt_of_cell r2)).trans f2; have Hb4 := Lib.hid (below_seq Hbw.out hb3); clear hb3))
          refine bodyPost_ret (v := .tuple #[bv (Bk.nd 0) (Bk.ins 0) (Bk.off 0), .bool true]) (by simp [results, Try.results32, go_sem, q0, q1, q2]) rfl ?_
          refine ⟨by rw [HE2.out], ?_⟩
          have hb4 := Hb4.out
          go_grown
        · rw [show stV 1 = Value.iface 103 (.agg #[]) from rfl]
          go_wp2_with (first | (go_at_call 115; refine (offeredB_any _).mono ?_; rintro e w3 ⟨rfl, hb3⟩; have Hb3 := Lib.hid hb3; have q0 := (hb3.cell (p := ⟨w.heap.size + 1, 0, none⟩) (block_lt_of_cell r0)).trans r0; have q1 := (hb3.cell (p := ⟨w.heap.size + 1, 1, none⟩) (block_lt_of_cell r1)).trans r1; have q2 := (hb3.cell (p := ⟨w.heap.size + 1, 2, none⟩) (block_lt_of_cell r2)).trans r2; have g0 := (hb3.frozen (p := ⟨w.heap.size + 1, 0, none⟩) (block_lt_of_cell r0)).trans f0; have g1 := (hb3.frozen (p := ⟨w.heap.size + 1, 1, none⟩) (block_lt_of_cell r1)).trans f1; have g2 := (hb3.frozen (p := ⟨w.heap.size + 1, 2, none⟩) (block_lt_of_cell r2)).trans f2; have Hb4 := Lib.hid (below_seq Hbw.out hb3); clear hb3))
          refine bodyPost_ret (v := .tuple #[bv (Bk.nd 1) (Bk.ins 1) (Bk.off 1), .bool true]) (by simp [results, Try.results32, go_sem, q0, q1, q2]) rfl ?_
          refine ⟨by rw [HE2.out], ?_⟩
          have hb4 := Hb4.out
          go_grown
        · rw [show stV 2 = Value.iface 104 (.agg #[]) from rfl]
          go_wp2_with (first | (go_at_call 116; refine (clearB_any _).mono ?_; rintro e w3 ⟨rfl, hb3⟩; have Hb3 := Lib.hid hb3; have q0 := (hb3.cell (p := ⟨w.heap.size + 1, 0, none⟩) (block_lt_of_cell r0)).trans r0; have q1 := (hb3.cell (p := ⟨w.heap.size + 1, 1, none⟩) (block_lt_of_cell r1)).trans r1; have q2 := (hb3.cell (p := ⟨w.heap.size + 1, 2, none⟩) (block_lt_of_cell r2)).trans r2; have g0 := (hb3.frozen (p := ⟨w.heap.size + 1, 0, none⟩) (block_lt_of_cell r0)).trans f0; have g1 := (hb3.frozen (p := ⟨w.heap.size + 1, 1, none⟩) (block_lt_of_cell r1)).trans f1; have g2 := (hb3.frozen (p := ⟨w.heap.size + 1, 2, none⟩) (block_lt_of_cell r2)).trans f2; have Hb4 := Lib.hid (below_seq Hbw.out hb3); clear hb3))
          refine bodyPost_ret (v := .tuple #[bv (Bk.nd 2) (Bk.ins 2) (Bk.off 2), .bool true]) (by simp [results, Try.results32, go_sem, q0, q1, q2]) rfl ?_
          refine ⟨by rw [HE2.out], ?_⟩
          have hb4 := Hb4.out
          go_grown
        · rw [show stV 3 = Value.iface 105 (.agg #[]) from rfl]
          go_wp2_with (first | (go_at_call 117; refine (insideB_any _).mono ?_; rintro e w3 ⟨rfl, hb3⟩; have Hb3 := Lib.hid hb3; have q0 := (hb3.cell (p := ⟨w.heap.size + 1, 0, none⟩) (block_lt_of_cell r0)).trans r0; have q1 := (hb3.cell (p := ⟨w.heap.size + 1, 1, none⟩) (block_lt_of_cell r1)).trans r1; have q2 := (hb3.cell (p := ⟨w.heap.size + 1, 2, none⟩) (block_lt_of_cell r2)).trans r2; have g0 := (hb3.frozen (p := ⟨w.heap.size + 1, 0, none⟩) (block_lt_of_cell r0)).trans f0; have g1 := (hb3.frozen (p := ⟨w.heap.size + 1, 1, none⟩) (block_lt_of_cell r1)).trans f1; have g2 := (hb3.frozen (p := ⟨w.heap.size + 1, 2, none⟩) (block_lt_of_cell r2)).trans f2; have Hb4 := Lib.hid (below_seq Hbw.out hb3); clear hb3))
          refine bodyPost_ret (v := .tuple #[bv (Bk.nd 3) (Bk.ins 3) (Bk.off 3), .bool true]) (by simp [results, Try.results32, go_sem, q0, q1, q2]) rfl ?_
          refine ⟨by rw [HE2.out], ?_⟩
          have hb4 := Hb4.out
          go_grown
        · rw [show stV 4 = Value.iface 106 (.agg #[]) from rfl]
          go_wp2_with (first | (go_at_call 118; refine (passedB_any _).mono ?_; rintro e w3 ⟨rfl, hb3⟩; have Hb3 := Lib.hid hb3; have q0 := (hb3.cell (p := ⟨w.heap.size + 1, 0, none⟩) (block_lt_of_cell r0)).trans r0; have q1 := (hb3.cell (p := ⟨w.heap.size + 1, 1, none⟩) (block_lt_of_cell r1)).trans r1; have q2 := (hb3.cell (p := ⟨w.heap.size + 1, 2, none⟩) (block_lt_of_cell r2)).trans r2; have g0 := (hb3.frozen (p := ⟨w.heap.size + 1, 0, none⟩) (block_lt_of_cell r0)).trans f0; have g1 := (hb3.frozen (p := ⟨w.heap.size + 1, 1, none⟩) (block_lt_of_cell r1)).trans f1; have g2 := (hb3.frozen (p := ⟨w.heap.size + 1, 2, none⟩) (block_lt_of_cell r2)).trans f2; have Hb4 := Lib.hid (below_seq Hbw.out hb3); clear hb3))
          refine bodyPost_ret (v := .tuple #[bv (Bk.nd 4) (Bk.ins 4) (Bk.off 4), .bool true]) (by simp [results, Try.results32, go_sem, q0, q1, q2]) rfl ?_
          refine ⟨by rw [HE2.out], ?_⟩
          have hb4 := Hb4.out
          go_grown
    · have HR : Hid (resV (Bk.stepR n i o s.toList) = .tuple #[bv 0 false false, .bool false]) := by unfold Hid; rw [Bk.stepR_len (by rw [str_len']; exact h1)]; rfl
      have hb1s : ((s.size : Int) != 1) = true := by simp; omega
      clear h1 hst
      go_enter Try.func32, Try.ntmps32
      go_wp2_with fail
      refine (instrumentOf_any _ _ _ _).mono ?_
      rintro e w1 ⟨rfl, hb1⟩
      simp only [World.size_alloc] at hb1
      obtain ⟨r0, r1, r2, f0, f1, f2⟩ := room_facts hb1
      have Hbw := Lib.hid (below_box2 hb1)
      clear hb1
      rw [HE.out]
      go_wp2_with fail
      refine bodyPost_ret (v := .tuple #[bv 0 false false, .bool false]) (by simp [results, Try.results32, go_sem, r0, r1, r2]) rfl ?_
      refine ⟨by rw [HR.out], ?_⟩
      have hb4 := Hbw.out
      go_grown
end Go.Proofs.Ytlneedjhdnjnpaa
