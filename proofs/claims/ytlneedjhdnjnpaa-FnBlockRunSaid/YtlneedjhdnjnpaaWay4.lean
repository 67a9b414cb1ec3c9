/-
  Contracts: BlockWay of the program and of the reference, for all blocks.
  Conditions: none.
-/
import Derived.Test.YtlneedjhdnjnpaaWay3
namespace Go.Proofs.Ytlneedjhdnjnpaa
open Go.RowKit
set_option linter.unusedVariables false
attribute [local go_sem ↓] Go.wp_at_zero Go.wp_at_succ run_eql_block run_neq_block

set_option maxRecDepth 100000 in
set_option maxHeartbeats 4000000 in
theorem specBlockWay_st (s t : Nat) (w : World) (hs5 : s < 5) (ht5 : t < 5) :
    Calls Try.prog 49 #[bv (Bk.nd s) (Bk.ins s) (Bk.off s), bv (Bk.nd t) (Bk.ins t) (Bk.off t)] w fun e w' => e = .returned (wayV (Bk.wayR s t)) ∧ Below w.heap.size w w' := by
  have HPs : Hid (Bk.possible (Bk.nd s) (Bk.ins s) (Bk.off s) = true) := by unfold Hid Bk.possible; rw [Bk.stOf_st hs5]; rfl
  have HPt : Hid (Bk.possible (Bk.nd t) (Bk.ins t) (Bk.off t) = true) := by unfold Hid Bk.possible; rw [Bk.stOf_st ht5]; rfl
  have HSome := Lib.hid (Bk.wayR_some hs5 ht5)
  go_enter Try.func49, Try.ntmps49
  go_wp2_with fail
  refine (specBlockPossible_any _ _ _ _).mono ?_
  rintro e w1 ⟨rfl, hb1⟩
  rw [HPs.out]
  have HA1 : Hid (Room w1 w.heap.size (.int .i64 (Bk.nd s)) (.bool (Bk.ins s)) (.bool (Bk.off s))) := ((room_al w _ _ _ _).alloc _).later hb1
  have HB1 : Hid (Room w1 (w.heap.size + 1) (.int .i64 (Bk.nd t)) (.bool (Bk.ins t)) (.bool (Bk.off t))) := Room.later (by have := room_al (w.alloc (.cells #[.int .i64 (Bk.nd s), .bool (Bk.ins s), .bool (Bk.off s)] 34)) (.int .i64 (Bk.nd t)) (.bool (Bk.ins t)) (.bool (Bk.off t)) 34; simpa using this) hb1
  have Hb1 : Hid (Below w.heap.size w w1) := below_seq (((Below.refl w.heap.size w).alloc (Nat.le_refl _) _).alloc (by simp) _) hb1
  clear hb1
  obtain ⟨b0, b1, b2, _, _, _⟩ := HB1.out
  go_wp2_with fail
  refine (specBlockPossible_any _ _ _ _).mono ?_
  rintro e w2 ⟨rfl, hb2⟩
  rw [HPt.out]
  have HA2 := Lib.hid (HA1.out.later hb2)
  have HB2 := Lib.hid (HB1.out.later hb2)
  have Hb2 := Lib.hid (below_seq Hb1.out hb2)
  clear hb2 HA1 HB1 b0 b1 b2
  go_wp2_with fail
  go_loopw [6] (fun jv wr => ∃ (k : Nat), k ≤ 10 ∧ jv = .int .i64 k ∧ Hid (∀ m, m < k → Bk.wayN t m s = none) ∧ Hid (Room wr w.heap.size (.int .i64 (Bk.nd s)) (.bool (Bk.ins s)) (.bool (Bk.off s))) ∧ Hid (Room wr (w.heap.size + 1) (.int .i64 (Bk.nd t)) (.bool (Bk.ins t)) (.bool (Bk.off t))) ∧ Hid (Below w.heap.size w wr)) (fun jv _ => 10 - (intOf jv).toNat)
  case atStart => exact ⟨0, by omega, rfl, fun m hm => by omega, HA2, HB2, Hb2⟩
  case round =>
    clear HA2 HB2 Hb2
    obtain ⟨k, hk, rfl, HK, HA, HB, Hb⟩ := hrel
    by_cases hlt : k < 10
    · obtain ⟨a0, a1, a2, _, _, _⟩ := HA.out
      obtain ⟨b0, b1, b2, _, _, _⟩ := HB.out
      cases hw : Bk.wayN t k s with
      | none =>
        have HR : Hid (wayV (Bk.wayN t k s) = .tuple #[.string ⟨#[]⟩, .bool false]) := by unfold Hid; rw [hw]; rfl
        have HK2 : Hid (∀ m, m < k + 1 → Bk.wayN t m s = none) := by
          intro m hm
          by_cases e : m = k
          · subst e; exact hw
          · exact HK.out m (by omega)
        clear hw
        go_wp2_with fail
        refine (l3Way_any t ht5 k (by omega) s _ hs5).mono ?_
        rintro e w5 ⟨rfl, hb5⟩
        rw [HR.out]
        have HA5 := Lib.hid (HA.out.later hb5)
        have HB5 := Lib.hid (HB.out.later hb5)
        have Hb5 := Lib.hid (below_seq Hb.out hb5)
        clear hb5 a0 a1 a2 b0 b1 b2
        go_wp2_with fail
        go_roundw
        case rel => exact ⟨k + 1, by omega, by go_num, HK2, HA5, HB5, Hb5⟩
        case measure => simp [intOf]; omega
      | some r =>
        have HR : Hid (wayV (Bk.wayN t k s) = .tuple #[.string (mkS r), .bool true]) := by unfold Hid; rw [hw]; rfl
        have HV : Hid (wayV (Bk.wayR s t) = .tuple #[.string (mkS r), .bool true]) := by unfold Hid; rw [Bk.wayR_hit hlt HK.out hw]; rfl
        clear hw
        go_wp2_with fail
        refine (l3Way_any t ht5 k (by omega) s _ hs5).mono ?_
        rintro e w5 ⟨rfl, hb5⟩
        rw [HR.out]
        have Hb5 := Lib.hid (below_seq Hb.out hb5)
        clear hb5
        go_wp2_with fail
        go_ret2
        exact ⟨by rw [HV.out]; rfl, Hb5.out⟩
    · exfalso
      have h1 := HSome.out
      rw [Bk.wayR_at (fun m hm => HK.out m (by omega))] at h1
      cases h1
theorem Bk.wayB_na {n : Int} {i o : Bool} {m : Int} {j p : Bool} (h : Bk.stOf n i o = none) : Bk.wayB n i o m j p = none := by unfold Bk.wayB; rw [h]; rfl
theorem Bk.wayB_nb {n : Int} {i o : Bool} {m : Int} {j p : Bool} (h : Bk.stOf m j p = none) : Bk.wayB n i o m j p = none := by
  unfold Bk.wayB
  rw [h]
  cases Bk.stOf n i o <;> rfl
theorem Bk.wayB_st {n : Int} {i o : Bool} {m : Int} {j p : Bool} {s t : Nat} (h : Bk.stOf n i o = some s) (h2 : Bk.stOf m j p = some t) : Bk.wayB n i o m j p = Bk.wayR s t := by unfold Bk.wayB; rw [h, h2]; rfl
set_option maxHeartbeats 2000000 in
theorem implBlockWay_any (n : Int) (i o : Bool) (m : Int) (j p : Bool) (w : World) :
    Calls Try.prog 48 #[bv n i o, bv m j p] w fun e w' => e = .returned (wayV (Bk.wayB n i o m j p)) ∧ Below w.heap.size w w' := by
  cases hs : Bk.stOf n i o with
  | none =>
    have HV : Hid (wayV (Bk.wayB n i o m j p) = .tuple #[.string ⟨#[]⟩, .bool false]) := by unfold Hid; rw [Bk.wayB_na hs]; rfl
    have HP : Hid (Bk.possible n i o = false) := by unfold Hid Bk.possible; rw [hs]; rfl
    clear hs
    go_enter Try.func48, Try.ntmps48
    go_wp2_with fail
    refine (implBlockPossible_any _ _ _ _).mono ?_
    rintro e w1 ⟨rfl, hb1⟩
    rw [HP.out]
    have Hb1 : Hid (Below w.heap.size w w1) := below_seq (((Below.refl w.heap.size w).alloc (Nat.le_refl _) _).alloc (by simp) _) hb1
    clear hb1
    go_wp2_with fail
    go_ret2
    exact ⟨by rw [HV.out]; rfl, Hb1.out⟩
  | some s =>
    cases ht : Bk.stOf m j p with
    | none =>
      have HV : Hid (wayV (Bk.wayB n i o m j p) = .tuple #[.string ⟨#[]⟩, .bool false]) := by unfold Hid; rw [Bk.wayB_nb ht]; rfl
      have HP : Hid (Bk.possible n i o = true) := by unfold Hid Bk.possible; rw [hs]; rfl
      have HQ : Hid (Bk.possible m j p = false) := by unfold Hid Bk.possible; rw [ht]; rfl
      clear hs ht
      go_enter Try.func48, Try.ntmps48
      go_wp2_with fail
      refine (implBlockPossible_any _ _ _ _).mono ?_
      rintro e w1 ⟨rfl, hb1⟩
      rw [HP.out]
      have HB1 : Hid (Room w1 (w.heap.size + 1) (.int .i64 m) (.bool j) (.bool p)) := Room.later (by have := room_al (w.alloc (.cells #[.int .i64 n, .bool i, .bool o] 34)) (.int .i64 m) (.bool j) (.bool p) 34; simpa using this) hb1
      have Hb1 : Hid (Below w.heap.size w w1) := below_seq (((Below.refl w.heap.size w).alloc (Nat.le_refl _) _).alloc (by simp) _) hb1
      clear hb1
      obtain ⟨b0, b1, b2, _, _, _⟩ := HB1.out
      go_wp2_with fail
      refine (implBlockPossible_any _ _ _ _).mono ?_
      rintro e w2 ⟨rfl, hb2⟩
      rw [HQ.out]
      have Hb2 := Lib.hid (below_seq Hb1.out hb2)
      clear hb2 b0 b1 b2
      go_wp2_with fail
      go_ret2
      exact ⟨by rw [HV.out]; rfl, Hb2.out⟩
    | some t =>
      rw [Bk.wayB_st hs ht]
      obtain ⟨hs5, rfl, rfl, rfl⟩ := Bk.stOf_lt hs
      obtain ⟨ht5, rfl, rfl, rfl⟩ := Bk.stOf_lt ht
      exact implBlockWay_st s t w hs5 ht5
set_option maxHeartbeats 2000000 in
theorem specBlockWay_any (n : Int) (i o : Bool) (m : Int) (j p : Bool) (w : World) :
    Calls Try.prog 49 #[bv n i o, bv m j p] w fun e w' => e = .returned (wayV (Bk.wayB n i o m j p)) ∧ Below w.heap.size w w' := by
  cases hs : Bk.stOf n i o with
  | none =>
    have HV : Hid (wayV (Bk.wayB n i o m j p) = .tuple #[.string ⟨#[]⟩, .bool false]) := by unfold Hid; rw [Bk.wayB_na hs]; rfl
    have HP : Hid (Bk.possible n i o = false) := by unfold Hid Bk.possible; rw [hs]; rfl
    clear hs
    go_enter Try.func49, Try.ntmps49
    go_wp2_with fail
    refine (specBlockPossible_any _ _ _ _).mono ?_
    rintro e w1 ⟨rfl, hb1⟩
    rw [HP.out]
    have Hb1 : Hid (Below w.heap.size w w1) := below_seq (((Below.refl w.heap.size w).alloc (Nat.le_refl _) _).alloc (by simp) _) hb1
    clear hb1
    go_wp2_with fail
    go_ret2
    exact ⟨by rw [HV.out]; rfl, Hb1.out⟩
  | some s =>
    cases ht : Bk.stOf m j p with
    | none =>
      have HV : Hid (wayV (Bk.wayB n i o m j p) = .tuple #[.string ⟨#[]⟩, .bool false]) := by unfold Hid; rw [Bk.wayB_nb ht]; rfl
      have HP : Hid (Bk.possible n i o = true) := by unfold Hid Bk.possible; rw [hs]; rfl
      have HQ : Hid (Bk.possible m j p = false) := by unfold Hid Bk.possible; rw [ht]; rfl
      clear hs ht
      go_enter Try.func49, Try.ntmps49
      go_wp2_with fail
      refine (specBlockPossible_any _ _ _ _).mono ?_
      rintro e w1 ⟨rfl, hb1⟩
      rw [HP.out]
      have HB1 : Hid (Room w1 (w.heap.size + 1) (.int .i64 m) (.bool j) (.bool p)) := Room.later (by have := room_al (w.alloc (.cells #[.int .i64 n, .bool i, .bool o] 34)) (.int .i64 m) (.bool j) (.bool p) 34; simpa using this) hb1
      have Hb1 : Hid (Below w.heap.size w w1) := below_seq (((Below.refl w.heap.size w).alloc (Nat.le_refl _) _).alloc (by simp) _) hb1
      clear hb1
      obtain ⟨b0, b1, b2, _, _, _⟩ := HB1.out
      go_wp2_with fail
      refine (specBlockPossible_any _ _ _ _).mono ?_
      rintro e w2 ⟨rfl, hb2⟩
      rw [HQ.out]
      have Hb2 := Lib.hid (below_seq Hb1.out hb2)
      clear hb2 b0 b1 b2
      go_wp2_with fail
      go_ret2
      exact ⟨by rw [HV.out]; rfl, Hb2.out⟩
    | some t =>
      rw [Bk.wayB_st hs ht]
      obtain ⟨hs5, rfl, rfl, rfl⟩ := Bk.stOf_lt hs
      obtain ⟨ht5, rfl, rfl, rfl⟩ := Bk.stOf_lt ht
      exact specBlockWay_st s t w hs5 ht5
end Go.Proofs.Ytlneedjhdnjnpaa
