/-
  Contract of DrawBlockDrop; the walk of the law FnBlockRepairDrop: it returns true for every two lists of bytes and leaves old memory as it was.
-/
import Derived.Test.YtlneedjhdnjnpaaDrawBlk
import Derived.Test.YtlneedjhdnjnpaaRepLaws
namespace Go.Proofs.Ytlneedjhdnjnpaa
open Go.RowKit
set_option linter.unusedVariables false
attribute [local go_sem ↓] Go.wp_at_zero Go.wp_at_succ run_eql_block run_neq_block

set_option maxRecDepth 100000 in
set_option maxHeartbeats 8000000 in
theorem DrawBlockDrop_any (A : Option Addr) (n c : Nat) (bs : List UInt8) (w : World) (hx : RdB w A n bs) (hl : n ≤ c) (hc : c ≤ maxLen) :
    Calls Try.prog 39 #[.slice A n c] w (DrewT 50 w) := by
  have HX := Lib.hid hx
  clear hx
  go_enter Try.func39, Try.ntmps39
  go_wp2_with fail
  refine (l6Open_any _ _ _ bs _ HX.out hl hc).mono ?_
  rintro e w1 ⟨rfl, hs1, hb1⟩
  have Hs1 := Lib.hid hs1
  have Hb1 := Lib.hid hb1
  clear hs1 hb1
  go_wp2_with fail
  refine (l91Legal_any _ _ _ _ Hs1.out (by omega)).mono ?_
  rintro e w2 ⟨S, p2, rfl, hS, hp2, hs2, hg2⟩
  have Hs2 := Lib.hid hs2
  have Hb2 := Lib.hid (below_src Hb1.out hg2 (Nat.le_refl _))
  clear hs2 hg2
  by_cases h0 : 0 < S.size
  · by_cases h30 : S.size < 30
    · go_wp2_with fail
      refine (pick_any _ _ _ _ _ Hs2.out (by omega) (by omega)).mono ?_
      rintro e w3 ⟨x, rfl, _, _, hs3, hg3⟩
      have Hs3 := Lib.hid hs3
      have Hb3 := Lib.hid (below_src Hb2.out hg3 (Nat.le_refl _))
      clear hs3 hg3
      by_cases hx : x = 0
      · subst hx
        go_wp2_with fail
        refine (pick_any _ _ _ _ _ Hs3.out (by omega) (by omega)).mono ?_
        rintro e w4 ⟨y, rfl, hy, _, hs4, hg4⟩
        obtain ⟨hy0, hyn⟩ := hy (by omega)
        obtain ⟨k, rfl⟩ := Int.eq_ofNat_of_zero_le hy0
        have Hs4 : Hid (Src w4.drew (w.heap.size + 1) w.heap.size (p2 + 1 + 1)) := hs4
        have hL4 : w.heap.size + 1 ≤ w4.heap.size := hs4.lts.2
        have Hb4 := Lib.hid (below_src Hb3.out hg4 (Nat.le_refl _))
        clear hs4 hg4 hy
        obtain ⟨E1, he1, hE1⟩ : ∃ E1 : ByteArray, (∀ W : World, (Instr.slice 9 (.string S) none (some (.int .i64 (k : Int))) none).run Try.prog W = .ok (.string E1) W) ∧ E1.size ≤ k := by
          refine ⟨S.extract 0 k, fun W => ?_, by rw [← str_len', take_toList, List.length_take, str_len']; omega⟩
          rw [run_slice_string_to_if W 9 S .i64 (k : Int) Try.underlying9, if_pos (by omega)]
          rfl
        obtain ⟨E2, he2, hE2⟩ : ∃ E2 : ByteArray, (∀ W : World, (Instr.slice 9 (.string S) (some (.int .i64 (k : Int))) none none).run Try.prog W = .ok (.string E2) W) ∧ E2.size ≤ 30 - k := by
          refine ⟨S.extract k S.size, fun W => ?_, by rw [← str_len', drop_toList, List.length_drop, str_len']; omega⟩
          rw [run_slice_string_from_if W 9 S .i64 (k : Int) Try.underlying9, if_pos (by omega)]
          rfl
        have HE1 := Lib.hid hE1
        have HE2 := Lib.hid hE2
        go_wp2_with fail
        go_region_with (first | (go_at_call 65; refine (of_any (w.heap.size + 1) w.heap.size (p2 + 1 + 1) w4.heap.size 4 4 [⟨#[111]⟩, ⟨#[101]⟩, ⟨#[102]⟩, ⟨#[120]⟩] 1 _ (Src.alloc Hs4.out _) (by omega) (lits_rd (w := w4.drew) _ (heap_alloc_new w4.drew _)) (by omega) (by omega) (by omega) (by decide)).mono ?_; rintro e w5 ⟨T, p5, rfl, hT, hp5, hs5, hg5⟩; have Hb5 : Hid (Below w.heap.size w w5) := (below_src (Hb4.out.drew.alloc (by simp only [World.size_drew]; omega) _) hg5 (Nat.le_refl _)); obtain ⟨X1, ha1, hX1⟩ : ∃ X1 : ByteArray, (∀ W : World, (Op.stringOp .add E1 T).run Try.prog W = .ok (.string X1) W) ∧ X1.size = E1.size + T.size := ⟨_, fun W => run_string_add_sum W _ _ (by omega), ByteArray.size_append⟩; obtain ⟨X2, ha2, hX2⟩ : ∃ X2 : ByteArray, (∀ W : World, (Op.stringOp .add X1 E2).run Try.prog W = .ok (.string X2) W) ∧ X2.size = X1.size + E2.size := ⟨_, fun W => run_string_add_sum W _ _ (by omega), ByteArray.size_append⟩; have HZ : Hid (X2.size ≤ 50) := (by unfold Hid; omega); clear hs5 hg5 hX1 hX2))
        all_goals go_wp2_with fail
        all_goals go_ret
        all_goals exact ⟨X2, rfl, by have := HZ.out; omega, Hb5.out⟩
      · have hxb : (x == 0) = false := by simpa using hx
        clear hx
        go_wp2_with fail
        go_ret
        exact ⟨S, rfl, by omega, Hb3.out⟩
    · have h30' : ¬ (S.size : Int) < 30 := by omega
      go_wp2_with fail
      go_ret
      exact ⟨S, rfl, by omega, Hb2.out⟩
  · go_wp2_with fail
    go_ret
    exact ⟨S, rfl, by omega, Hb2.out⟩
end Go.Proofs.Ytlneedjhdnjnpaa
