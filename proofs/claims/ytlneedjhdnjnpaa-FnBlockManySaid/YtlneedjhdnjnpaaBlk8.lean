/-
  Contract: BlockRun of the program.
  Conditions: none.
-/
import Derived.Test.YtlneedjhdnjnpaaBlk7
namespace Go.Proofs.Ytlneedjhdnjnpaa
open Go.RowKit
set_option linter.unusedVariables false
attribute [local go_sem ↓] Go.wp_at_zero Go.wp_at_succ run_eql_block run_neq_block

set_option maxHeartbeats 4000000 in
theorem implBlockRun_any (n : Int) (i o : Bool) (s : ByteArray) (w : World) (hsz : s.size ≤ maxLen) :
    Calls Try.prog 27 #[bv n i o, .string s] w fun e w' => e = .returned (resV (Bk.runR n i o s.toList)) ∧ Below w.heap.size w w' := by
  unfold maxLen at hsz
  cases hst : Bk.stOf n i o with
  | none =>
    have HE := Lib.hid (instV_none hst)
    have HR : Hid (resV (Bk.runR n i o s.toList) = .tuple #[bv 0 false false, .bool false]) := by unfold Hid; rw [Bk.runR_none hst]; rfl
    clear hst
    go_enter Try.func27, Try.ntmps27
    go_wp2_with fail
    refine (instrumentOf_any _ _ _ _).mono ?_
    rintro e w1 ⟨rfl, hb1⟩
    simp only [World.size_alloc] at hb1
    obtain ⟨r0, r1, r2, f0, f1, f2⟩ := room_facts hb1
    have Hbw := Lib.hid (below_box2 hb1)
    clear hb1
    rw [HE.out]
    go_wp2_with fail
    refine bodyPost_ret (v := .tuple #[bv 0 false false, .bool false]) (by simp [results, Try.results27, go_sem, r0, r1, r2]) rfl ?_
    refine ⟨by rw [HR.out], ?_⟩
    have hb4 := Hbw.out
    go_grown
  | some q =>
    have hq5 : q < 5 := (Bk.stOf_lt hst).1
    have HE := Lib.hid (instV_some hst)
    by_cases h30 : s.size ≤ 30
    · have HR : Hid (Bk.runR n i o s.toList = Bk.runS q s.toList) := by unfold Hid; rw [Bk.runR_some hst (by rw [str_len']; exact h30)]
      clear hst
      go_enter Try.func27, Try.ntmps27
      go_wp2_with fail
      refine (instrumentOf_any _ _ _ _).mono ?_
      rintro e w1 ⟨rfl, hb1⟩
      simp only [World.size_alloc] at hb1
      have HRm := Lib.hid (room_facts hb1)
      have Hbw := Lib.hid (below_box2 hb1)
      clear hb1
      rw [HE.out]
      go_wp2_with fail
      go_loop [6, 24] (fun st i => ∃ k t : Nat, k ≤ s.size ∧ t < 5 ∧ i = .int .i64 k ∧ st = stV t ∧ Hid (Bk.runS q (s.toList.take k) = some t)) (fun _ i => s.size - (intOf i).toNat)
      case atStart => exact ⟨0, q, by omega, hq5, rfl, rfl, rfl⟩
      case round =>
        obtain ⟨k, t, hk, ht5, rfl, rfl, HT⟩ := hrel
        by_cases hlt : k < s.size
        · have hbt : (s[k]'hlt).toNat < 256 := (s[k]'hlt).toNat_lt
          have HC := Lib.hid (str_at' s k hlt)
          go_wp2_with fail
          refine (stateBehind_any t _ _ ht5 hbt).mono ?_
          rintro e w2 ⟨rfl, rfl⟩
          cases hst2 : Bk.step t (s[k]'hlt).toNat with
          | none =>
            have HR2 : Hid (resV (Bk.runR n i o s.toList) = .tuple #[bv 0 false false, .bool false]) := by unfold Hid; rw [HR.out, Bk.runS_stop HC.out HT.out hst2]; rfl
            rw [behV_none hst2]
            clear hst2
            obtain ⟨r0, r1, r2, f0, f1, f2⟩ := HRm.out
            go_wp2_with fail
            refine bodyPost_ret (v := .tuple #[bv 0 false false, .bool false]) (by simp [results, Try.results27, go_sem, r0, r1, r2]) rfl ?_
            refine ⟨by rw [HR2.out], ?_⟩
            have hb4 := Hbw.out
            go_grown
          | some u =>
            have hu5 : u < 5 := Bk.step_lt hst2
            have HT2 : Hid (Bk.runS q (s.toList.take (k + 1)) = some u) := by unfold Hid; exact Bk.runS_next HC.out HT.out hst2
            rw [behV_some hst2]
            clear hst2
            go_wp2_with fail
            go_round
            case rel => exact ⟨k + 1, u, by omega, hu5, by go_num, rfl, HT2⟩
            case measure => simp [intOf]; omega
        · have hkk : k = s.size := by omega
          have HE2 : Hid (resV (Bk.runR n i o s.toList) = .tuple #[bv (Bk.nd t) (Bk.ins t) (Bk.off t), .bool true]) := by
            unfold Hid
            have h1 := HT.out
            rw [List.take_of_length_le (by rw [str_len']; omega)] at h1
            rw [HR.out, h1]; rfl
          subst hkk
          clear hlt HT
          · obtain ⟨r0, r1, r2, f0, f1, f2⟩ := HRm.out
            have : t = 0 ∨ t = 1 ∨ t = 2 ∨ t = 3 ∨ t = 4 := by omega
            rcases this with rfl | rfl | rfl | rfl | rfl
            · rw [show stV 0 = Value.iface 102 (.agg #[]) from rfl]
              go_wp2_with (first | (go_at_call 114; refine (normalB_any _).mono ?_; rintro e w3 ⟨rfl, hb3⟩; obtain ⟨q0, q1, q2, g0, g1, g2⟩ := room_later HRm.out hb3; have Hb4 := Lib.hid (below_seq Hbw.out hb3); clear hb3))
              refine bodyPost_ret (v := .tuple #[bv (Bk.nd 0) (Bk.ins 0) (Bk.off 0), .bool true]) (by simp [results, Try.results27, go_sem, q0, q1, q2]) rfl ?_
              refine ⟨by rw [HE2.out], ?_⟩
              have hb4 := Hb4.out
              go_grown
            · rw [show stV 1 = Value.iface 103 (.agg #[]) from rfl]
              go_wp2_with (first | (go_at_call 115; refine (offeredB_any _).mono ?_; rintro e w3 ⟨rfl, hb3⟩; obtain ⟨q0, q1, q2, g0, g1, g2⟩ := room_later HRm.out hb3; have Hb4 := Lib.hid (below_seq Hbw.out hb3); clear hb3))
              refine bodyPost_ret (v := .tuple #[bv (Bk.nd 1) (Bk.ins 1) (Bk.off 1), .bool true]) (by simp [results, Try.results27, go_sem, q0, q1, q2]) rfl ?_
              refine ⟨by rw [HE2.out], ?_⟩
              have hb4 := Hb4.out
              go_grown
            · rw [show stV 2 = Value.iface 104 (.agg #[]) from rfl]
              go_wp2_with (first | (go_at_call 116; refine (clearB_any _).mono ?_; rintro e w3 ⟨rfl, hb3⟩; obtain ⟨q0, q1, q2, g0, g1, g2⟩ := room_later HRm.out hb3; have Hb4 := Lib.hid (below_seq Hbw.out hb3); clear hb3))
              refine bodyPost_ret (v := .tuple #[bv (Bk.nd 2) (Bk.ins 2) (Bk.off 2), .bool true]) (by simp [results, Try.results27, go_sem, q0, q1, q2]) rfl ?_
              refine ⟨by rw [HE2.out], ?_⟩
              have hb4 := Hb4.out
              go_grown
            · rw [show stV 3 = Value.iface 105 (.agg #[]) from rfl]
              go_wp2_with (first | (go_at_call 117; refine (insideB_any _).mono ?_; rintro e w3 ⟨rfl, hb3⟩; obtain ⟨q0, q1, q2, g0, g1, g2⟩ := room_later HRm.out hb3; have Hb4 := Lib.hid (below_seq Hbw.out hb3); clear hb3))
              refine bodyPost_ret (v := .tuple #[bv (Bk.nd 3) (Bk.ins 3) (Bk.off 3), .bool true]) (by simp [results, Try.results27, go_sem, q0, q1, q2]) rfl ?_
              refine ⟨by rw [HE2.out], ?_⟩
              have hb4 := Hb4.out
              go_grown
            · rw [show stV 4 = Value.iface 106 (.agg #[]) from rfl]
              go_wp2_with (first | (go_at_call 118; refine (passedB_any _).mono ?_; rintro e w3 ⟨rfl, hb3⟩; obtain ⟨q0, q1, q2, g0, g1, g2⟩ := room_later HRm.out hb3; have Hb4 := Lib.hid (below_seq Hbw.out hb3); clear hb3))
              refine bodyPost_ret (v := .tuple #[bv (Bk.nd 4) (Bk.ins 4) (Bk.off 4), .bool true]) (by simp [results, Try.results27, go_sem, q0, q1, q2]) rfl ?_
              refine ⟨by rw [HE2.out], ?_⟩
              have hb4 := Hb4.out
              go_grown
    · have HR : Hid (resV (Bk.runR n i o s.toList) = .tuple #[bv 0 false false, .bool false]) := by unfold Hid; rw [Bk.runR_long (by rw [str_len']; omega)]; rfl
      have hb1s : (30 : Int) < s.size := by omega
      clear h30 hst
      go_enter Try.func27, Try.ntmps27
      go_wp2_with fail
      refine (instrumentOf_any _ _ _ _).mono ?_
      rintro e w1 ⟨rfl, hb1⟩
      simp only [World.size_alloc] at hb1
      obtain ⟨r0, r1, r2, f0, f1, f2⟩ := room_facts hb1
      have Hbw := Lib.hid (below_box2 hb1)
      clear hb1
      rw [HE.out]
      go_wp2_with fail
      refine bodyPost_ret (v := .tuple #[bv 0 false false, .bool false]) (by simp [results, Try.results27, go_sem, r0, r1, r2]) rfl ?_
      refine ⟨by rw [HR.out], ?_⟩
      have hb4 := Hbw.out
      go_grown
end Go.Proofs.Ytlneedjhdnjnpaa
