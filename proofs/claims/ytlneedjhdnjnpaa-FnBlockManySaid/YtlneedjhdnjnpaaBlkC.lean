/-
  Contract: BlockNext of the program.
  Conditions: none.
-/
import Derived.Test.YtlneedjhdnjnpaaBlkB
import Derived.Test.YtlneedjhdnjnpaaShelf
namespace Go.Proofs.Ytlneedjhdnjnpaa
open Go.RowKit
set_option linter.unusedVariables false
attribute [local go_sem ↓] Go.wp_at_zero Go.wp_at_succ run_eql_block run_neq_block

theorem Bk.next_none {n : Int} {i o : Bool} (h : Bk.stOf n i o = none) : Bk.next n i o = [] := by
  unfold Bk.next Bk.nx
  rw [List.filter_eq_nil_iff]
  intro c _
  rw [Bk.stepR_none h]
  decide
theorem bd_snoc {T e : TypeId} {B b : Nat} {l : List UInt8} {c : UInt8} {w : World} (h : Lib.BuilderAt T e B b (.pointer (some ⟨b, 0, none⟩)) (Lib.byteCells l ++ [.int .u8 (c.toNat : Nat)]) w) : Lib.IsBuilder T e B b (Lib.byteCells (l ++ [c])) w := by
  have : Lib.byteCells (l ++ [c]) = Lib.byteCells l ++ [.int .u8 (c.toNat : Nat)] := by simp [Lib.byteCells]
  rw [this]
  exact .inr h
set_option maxHeartbeats 4000000 in
theorem implBlockNext_any (n : Int) (i o : Bool) (w : World) :
    Calls Try.prog 30 #[bv n i o] w fun e w' => e = .returned (.string (mkS (Bk.next n i o))) ∧ Below w.heap.size w w' := by
  cases hst : Bk.stOf n i o with
  | none =>
    have HE := Lib.hid (instV_none hst)
    have HN := Lib.hid (Bk.next_none hst)
    clear hst
    go_enter Try.func30, Try.ntmps30
    go_wp2_with fail
    refine (instrumentOf_any _ _ _ _).mono ?_
    rintro e w1 ⟨rfl, hb1⟩
    have Hb1 := Lib.hid hb1
    clear hb1
    rw [HE.out]
    go_wp2_with fail
    go_ret
    exact ⟨by rw [HN.out]; rfl, below_seq ((Below.refl w.heap.size w).alloc (Nat.le_refl _) _) Hb1.out⟩
  | some q =>
    have HE := Lib.hid (instV_some hst)
    have HST := Lib.hid hst
    have hq5 : q < 5 := (Bk.stOf_lt hst).1
    clear hst
    go_enter Try.func30, Try.ntmps30
    go_wp2_with fail
    refine (instrumentOf_any _ _ _ _).mono ?_
    rintro e w1 ⟨rfl, hb1⟩
    have Hb1 : Hid (Below w.heap.size w w1) := below_seq ((Below.refl w.heap.size w).alloc (Nat.le_refl _) _) hb1
    clear hb1
    rw [HE.out]
    go_wp2_with fail
    go_loopw [16] (fun j wr => ∃ k : Nat, k ≤ 7 ∧ j = .int .i64 k ∧ Hid (Lib.IsBuilder 71 5 w1.heap.size w1.heap.size (Lib.byteCells (Bk.nx n i o k)) wr) ∧ Hid (Below w.heap.size w wr)) (fun j _ => 7 - (intOf j).toNat)
    case atStart => exact ⟨0, by omega, rfl, Lib.fresh_isBuilder _ _ _, Hb1.out.alloc Hb1.out.size _⟩
    case round =>
      obtain ⟨k, hk, rfl, HI, Hbw⟩ := hrel
      have HBB : Hid (w1.heap.size ≤ wr.heap.size) := by
        rcases HI.out with h | h <;> exact Nat.le_of_lt h.lt
      have Hsz : Hid (w.heap.size ≤ w1.heap.size) := Hb1.out.size
      have : k = 0 ∨ k = 1 ∨ k = 2 ∨ k = 3 ∨ k = 4 ∨ k = 5 ∨ k = 6 ∨ k = 7 := by omega
      rcases this with h | h | h | h | h | h | h | h
      · obtain rfl : k = 0 := by omega
        clear h
        have HC : Hid (Bk.ev[0]? = some 97) := rfl
        go_wp2_with fail
        refine (stateBehind_any q 97 _ hq5 (by omega)).mono ?_
        rintro e w2 ⟨rfl, rfl⟩
        cases hst2 : Bk.step q 97 with
        | none =>
          have HN2 : Hid (Bk.nx n i o (0 + 1) = Bk.nx n i o 0) := Bk.nx_no HC.out (by rw [Bk.stepR_some HST.out]; show (Bk.step q 97).isSome = false; rw [hst2]; rfl)
          rw [behV_none hst2]
          clear hst2
          go_wp2_with fail
          go_roundw
          case rel => exact ⟨0 + 1, by omega, rfl, by unfold Hid; rw [HN2.out]; exact HI.out, Hbw.out⟩
          case measure => simp [intOf]
        | some u =>
          have HN2 : Hid (Bk.nx n i o (0 + 1) = Bk.nx n i o 0 ++ [97]) := Bk.nx_yes HC.out (by rw [Bk.stepR_some HST.out]; show (Bk.step q 97).isSome = true; rw [hst2]; rfl)
          rw [behV_some hst2]
          clear hst2
          go_wp2_with fail
          refine (Try.Builder_WriteByte _ _ _ _ _ HI.out (by rw [Lib.byteCells_length]; have := Bk.nx_len n i o 0; omega) HBB.out).mono ?_
          rintro e w3 ⟨rfl, hi3, hb3⟩
          have HI3 := Lib.hid hi3
          have Hb3 := Lib.hid (Hbw.out.trans (hb3.mono Hsz.out))
          clear hi3 hb3
          go_wp2_with fail
          go_roundw
          case rel => exact ⟨0 + 1, by omega, rfl, by unfold Hid; rw [HN2.out]; exact bd_snoc HI3.out, Hb3.out⟩
          case measure => simp [intOf]
      · obtain rfl : k = 1 := by omega
        clear h
        have HC : Hid (Bk.ev[1]? = some 99) := rfl
        go_wp2_with fail
        refine (stateBehind_any q 99 _ hq5 (by omega)).mono ?_
        rintro e w2 ⟨rfl, rfl⟩
        cases hst2 : Bk.step q 99 with
        | none =>
          have HN2 : Hid (Bk.nx n i o (1 + 1) = Bk.nx n i o 1) := Bk.nx_no HC.out (by rw [Bk.stepR_some HST.out]; show (Bk.step q 99).isSome = false; rw [hst2]; rfl)
          rw [behV_none hst2]
          clear hst2
          go_wp2_with fail
          go_roundw
          case rel => exact ⟨1 + 1, by omega, rfl, by unfold Hid; rw [HN2.out]; exact HI.out, Hbw.out⟩
          case measure => simp [intOf]
        | some u =>
          have HN2 : Hid (Bk.nx n i o (1 + 1) = Bk.nx n i o 1 ++ [99]) := Bk.nx_yes HC.out (by rw [Bk.stepR_some HST.out]; show (Bk.step q 99).isSome = true; rw [hst2]; rfl)
          rw [behV_some hst2]
          clear hst2
          go_wp2_with fail
          refine (Try.Builder_WriteByte _ _ _ _ _ HI.out (by rw [Lib.byteCells_length]; have := Bk.nx_len n i o 1; omega) HBB.out).mono ?_
          rintro e w3 ⟨rfl, hi3, hb3⟩
          have HI3 := Lib.hid hi3
          have Hb3 := Lib.hid (Hbw.out.trans (hb3.mono Hsz.out))
          clear hi3 hb3
          go_wp2_with fail
          go_roundw
          case rel => exact ⟨1 + 1, by omega, rfl, by unfold Hid; rw [HN2.out]; exact bd_snoc HI3.out, Hb3.out⟩
          case measure => simp [intOf]
      · obtain rfl : k = 2 := by omega
        clear h
        have HC : Hid (Bk.ev[2]? = some 101) := rfl
        go_wp2_with fail
        refine (stateBehind_any q 101 _ hq5 (by omega)).mono ?_
        rintro e w2 ⟨rfl, rfl⟩
        cases hst2 : Bk.step q 101 with
        | none =>
          have HN2 : Hid (Bk.nx n i o (2 + 1) = Bk.nx n i o 2) := Bk.nx_no HC.out (by rw [Bk.stepR_some HST.out]; show (Bk.step q 101).isSome = false; rw [hst2]; rfl)
          rw [behV_none hst2]
          clear hst2
          go_wp2_with fail
          go_roundw
          case rel => exact ⟨2 + 1, by omega, rfl, by unfold Hid; rw [HN2.out]; exact HI.out, Hbw.out⟩
          case measure => simp [intOf]
        | some u =>
          have HN2 : Hid (Bk.nx n i o (2 + 1) = Bk.nx n i o 2 ++ [101]) := Bk.nx_yes HC.out (by rw [Bk.stepR_some HST.out]; show (Bk.step q 101).isSome = true; rw [hst2]; rfl)
          rw [behV_some hst2]
          clear hst2
          go_wp2_with fail
          refine (Try.Builder_WriteByte _ _ _ _ _ HI.out (by rw [Lib.byteCells_length]; have := Bk.nx_len n i o 2; omega) HBB.out).mono ?_
          rintro e w3 ⟨rfl, hi3, hb3⟩
          have HI3 := Lib.hid hi3
          have Hb3 := Lib.hid (Hbw.out.trans (hb3.mono Hsz.out))
          clear hi3 hb3
          go_wp2_with fail
          go_roundw
          case rel => exact ⟨2 + 1, by omega, rfl, by unfold Hid; rw [HN2.out]; exact bd_snoc HI3.out, Hb3.out⟩
          case measure => simp [intOf]
      · obtain rfl : k = 3 := by omega
        clear h
        have HC : Hid (Bk.ev[3]? = some 102) := rfl
        go_wp2_with fail
        refine (stateBehind_any q 102 _ hq5 (by omega)).mono ?_
        rintro e w2 ⟨rfl, rfl⟩
        cases hst2 : Bk.step q 102 with
        | none =>
          have HN2 : Hid (Bk.nx n i o (3 + 1) = Bk.nx n i o 3) := Bk.nx_no HC.out (by rw [Bk.stepR_some HST.out]; show (Bk.step q 102).isSome = false; rw [hst2]; rfl)
          rw [behV_none hst2]
          clear hst2
          go_wp2_with fail
          go_roundw
          case rel => exact ⟨3 + 1, by omega, rfl, by unfold Hid; rw [HN2.out]; exact HI.out, Hbw.out⟩
          case measure => simp [intOf]
        | some u =>
          have HN2 : Hid (Bk.nx n i o (3 + 1) = Bk.nx n i o 3 ++ [102]) := Bk.nx_yes HC.out (by rw [Bk.stepR_some HST.out]; show (Bk.step q 102).isSome = true; rw [hst2]; rfl)
          rw [behV_some hst2]
          clear hst2
          go_wp2_with fail
          refine (Try.Builder_WriteByte _ _ _ _ _ HI.out (by rw [Lib.byteCells_length]; have := Bk.nx_len n i o 3; omega) HBB.out).mono ?_
          rintro e w3 ⟨rfl, hi3, hb3⟩
          have HI3 := Lib.hid hi3
          have Hb3 := Lib.hid (Hbw.out.trans (hb3.mono Hsz.out))
          clear hi3 hb3
          go_wp2_with fail
          go_roundw
          case rel => exact ⟨3 + 1, by omega, rfl, by unfold Hid; rw [HN2.out]; exact bd_snoc HI3.out, Hb3.out⟩
          case measure => simp [intOf]
      · obtain rfl : k = 4 := by omega
        clear h
        have HC : Hid (Bk.ev[4]? = some 108) := rfl
        go_wp2_with fail
        refine (stateBehind_any q 108 _ hq5 (by omega)).mono ?_
        rintro e w2 ⟨rfl, rfl⟩
        cases hst2 : Bk.step q 108 with
        | none =>
          have HN2 : Hid (Bk.nx n i o (4 + 1) = Bk.nx n i o 4) := Bk.nx_no HC.out (by rw [Bk.stepR_some HST.out]; show (Bk.step q 108).isSome = false; rw [hst2]; rfl)
          rw [behV_none hst2]
          clear hst2
          go_wp2_with fail
          go_roundw
          case rel => exact ⟨4 + 1, by omega, rfl, by unfold Hid; rw [HN2.out]; exact HI.out, Hbw.out⟩
          case measure => simp [intOf]
        | some u =>
          have HN2 : Hid (Bk.nx n i o (4 + 1) = Bk.nx n i o 4 ++ [108]) := Bk.nx_yes HC.out (by rw [Bk.stepR_some HST.out]; show (Bk.step q 108).isSome = true; rw [hst2]; rfl)
          rw [behV_some hst2]
          clear hst2
          go_wp2_with fail
          refine (Try.Builder_WriteByte _ _ _ _ _ HI.out (by rw [Lib.byteCells_length]; have := Bk.nx_len n i o 4; omega) HBB.out).mono ?_
          rintro e w3 ⟨rfl, hi3, hb3⟩
          have HI3 := Lib.hid hi3
          have Hb3 := Lib.hid (Hbw.out.trans (hb3.mono Hsz.out))
          clear hi3 hb3
          go_wp2_with fail
          go_roundw
          case rel => exact ⟨4 + 1, by omega, rfl, by unfold Hid; rw [HN2.out]; exact bd_snoc HI3.out, Hb3.out⟩
          case measure => simp [intOf]
      · obtain rfl : k = 5 := by omega
        clear h
        have HC : Hid (Bk.ev[5]? = some 111) := rfl
        go_wp2_with fail
        refine (stateBehind_any q 111 _ hq5 (by omega)).mono ?_
        rintro e w2 ⟨rfl, rfl⟩
        cases hst2 : Bk.step q 111 with
        | none =>
          have HN2 : Hid (Bk.nx n i o (5 + 1) = Bk.nx n i o 5) := Bk.nx_no HC.out (by rw [Bk.stepR_some HST.out]; show (Bk.step q 111).isSome = false; rw [hst2]; rfl)
          rw [behV_none hst2]
          clear hst2
          go_wp2_with fail
          go_roundw
          case rel => exact ⟨5 + 1, by omega, rfl, by unfold Hid; rw [HN2.out]; exact HI.out, Hbw.out⟩
          case measure => simp [intOf]
        | some u =>
          have HN2 : Hid (Bk.nx n i o (5 + 1) = Bk.nx n i o 5 ++ [111]) := Bk.nx_yes HC.out (by rw [Bk.stepR_some HST.out]; show (Bk.step q 111).isSome = true; rw [hst2]; rfl)
          rw [behV_some hst2]
          clear hst2
          go_wp2_with fail
          refine (Try.Builder_WriteByte _ _ _ _ _ HI.out (by rw [Lib.byteCells_length]; have := Bk.nx_len n i o 5; omega) HBB.out).mono ?_
          rintro e w3 ⟨rfl, hi3, hb3⟩
          have HI3 := Lib.hid hi3
          have Hb3 := Lib.hid (Hbw.out.trans (hb3.mono Hsz.out))
          clear hi3 hb3
          go_wp2_with fail
          go_roundw
          case rel => exact ⟨5 + 1, by omega, rfl, by unfold Hid; rw [HN2.out]; exact bd_snoc HI3.out, Hb3.out⟩
          case measure => simp [intOf]
      · obtain rfl : k = 6 := by omega
        clear h
        have HC : Hid (Bk.ev[6]? = some 114) := rfl
        go_wp2_with fail
        refine (stateBehind_any q 114 _ hq5 (by omega)).mono ?_
        rintro e w2 ⟨rfl, rfl⟩
        cases hst2 : Bk.step q 114 with
        | none =>
          have HN2 : Hid (Bk.nx n i o (6 + 1) = Bk.nx n i o 6) := Bk.nx_no HC.out (by rw [Bk.stepR_some HST.out]; show (Bk.step q 114).isSome = false; rw [hst2]; rfl)
          rw [behV_none hst2]
          clear hst2
          go_wp2_with fail
          go_roundw
          case rel => exact ⟨6 + 1, by omega, rfl, by unfold Hid; rw [HN2.out]; exact HI.out, Hbw.out⟩
          case measure => simp [intOf]
        | some u =>
          have HN2 : Hid (Bk.nx n i o (6 + 1) = Bk.nx n i o 6 ++ [114]) := Bk.nx_yes HC.out (by rw [Bk.stepR_some HST.out]; show (Bk.step q 114).isSome = true; rw [hst2]; rfl)
          rw [behV_some hst2]
          clear hst2
          go_wp2_with fail
          refine (Try.Builder_WriteByte _ _ _ _ _ HI.out (by rw [Lib.byteCells_length]; have := Bk.nx_len n i o 6; omega) HBB.out).mono ?_
          rintro e w3 ⟨rfl, hi3, hb3⟩
          have HI3 := Lib.hid hi3
          have Hb3 := Lib.hid (Hbw.out.trans (hb3.mono Hsz.out))
          clear hi3 hb3
          go_wp2_with fail
          go_roundw
          case rel => exact ⟨6 + 1, by omega, rfl, by unfold Hid; rw [HN2.out]; exact bd_snoc HI3.out, Hb3.out⟩
          case measure => simp [intOf]
      · obtain rfl : k = 7 := by omega
        clear h
        go_wp2_with fail
        refine (Try.Builder_String_any _ _ _ _ HI.out HBB.out).mono ?_
        rintro e w3 ⟨rfl, hb3⟩
        have Hb3 := Lib.hid (Hbw.out.trans (hb3.mono Hsz.out))
        clear hb3
        go_wp2_with fail
        go_ret
        exact ⟨rfl, Hb3.out⟩
end Go.Proofs.Ytlneedjhdnjnpaa
