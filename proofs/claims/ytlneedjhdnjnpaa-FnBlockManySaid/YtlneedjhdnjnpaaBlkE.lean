/-
  Contracts: BlockDrop of the program and of the reference.
  Conditions: none.
-/
import Derived.Test.YtlneedjhdnjnpaaBlkB
import Derived.Test.YtlneedjhdnjnpaaInts
import Derived.StillTailTactics
namespace Go.Proofs.Ytlneedjhdnjnpaa
open Go.RowKit
set_option linter.unusedVariables false
attribute [local go_sem ↓] Go.wp_at_zero Go.wp_at_succ run_eql_block run_neq_block

namespace Bk
/-- Those of the first k events that can be left out. -/
def dr (l : List UInt8) (k : Nat) : List Int := ((List.range k).filter fun i => legal (l.take i ++ l.drop (i + 1))).map Int.ofNat
/-- What BlockDrop returns. -/
def dropL (l : List UInt8) : List Int := if l.length ≤ 30 then dr l l.length else []
theorem dr_yes {l : List UInt8} {k : Nat} (h : legal (l.take k ++ l.drop (k + 1)) = true) : dr l (k + 1) = dr l k ++ [(k : Int)] := by
  unfold dr; rw [List.range_succ, List.filter_append]; simp [h]
theorem dr_no {l : List UInt8} {k : Nat} (h : legal (l.take k ++ l.drop (k + 1)) = false) : dr l (k + 1) = dr l k := by
  unfold dr; rw [List.range_succ, List.filter_append]; simp [h]
theorem dr_len (l : List UInt8) (k : Nat) : (dr l k).length ≤ k := by
  unfold dr
  rw [List.length_map]
  have h1 := List.length_filter_le (fun i => legal (l.take i ++ l.drop (i + 1))) (List.range k)
  rw [List.length_range] at h1
  exact h1
end Bk
theorem own_lit0b (w : World) (e : TypeId) : (w.alloc (.cells #[] e)).ownsRow w.heap.size e 1 (.slice (some ⟨w.heap.size, 0, none⟩) 0 0) 0 [] :=
  World.ownsRow_lit w #[] 0 (Nat.le_refl _) (Nat.zero_le _) rfl
theorem take_toList (s : ByteArray) (k : Nat) : (s.extract 0 k).toList = s.toList.take k := by
  rw [ByteArray.toList_eq, ByteArray.toList_eq, ByteArray.data_extract, Array.toList_extract]
  simp [List.extract]
theorem drop_toList (s : ByteArray) (k : Nat) : (s.extract k s.size).toList = s.toList.drop k := by
  rw [ByteArray.toList_eq, ByteArray.toList_eq, ByteArray.data_extract, Array.toList_extract]
  simp only [List.extract]
  rw [List.take_of_length_le]
  rw [List.length_drop]
  show s.data.size - k ≤ _
  exact Nat.le_refl _
theorem cut_toList (s : ByteArray) (k : Nat) : (s.extract 0 k ++ s.extract (k + 1) s.size).toList = s.toList.take k ++ s.toList.drop (k + 1) := by
  rw [append_toList, take_toList, drop_toList]
theorem cut_size (s : ByteArray) (k : Nat) : (s.extract 0 k ++ s.extract (k + 1) s.size).size ≤ s.size := by
  rw [← str_len', cut_toList, List.length_append, List.length_take, List.length_drop, str_len']
  omega
theorem Bk.dropL_big {s : ByteArray} (h : 30 < s.size) : Bk.dropL s.toList = [] := by unfold Bk.dropL; rw [if_neg (by rw [str_len']; omega)]
set_option maxHeartbeats 1000000 in
theorem implBlockDrop_big (s : ByteArray) (w : World) (hsz : s.size ≤ 9223372036854775807) (h : 30 < s.size) :
    Calls Try.prog 40 #[.string s] w (RetL1 3 w.heap.size (Bk.dropL s.toList) w) := by
  have HL := Lib.hid (Bk.dropL_big h)
  have hb1s : (30 : Int) < s.size := by omega
  clear h
  go_enter Try.func40, Try.ntmps40
  go_wp2_with fail
  go_ret
  exact ⟨_, _, _, rfl, by rw [HL.out]; exact own_lit0b w _, (Below.refl _ _).alloc (Nat.le_refl _) _⟩
set_option maxHeartbeats 1000000 in
theorem specBlockDrop_big (s : ByteArray) (w : World) (hsz : s.size ≤ 9223372036854775807) (h : 30 < s.size) :
    Calls Try.prog 41 #[.string s] w (RetL1 3 w.heap.size (Bk.dropL s.toList) w) := by
  have HL := Lib.hid (Bk.dropL_big h)
  have hb1s : (30 : Int) < s.size := by omega
  clear h
  go_enter Try.func41, Try.ntmps41
  go_wp2_with fail
  go_loop [3, 4] (fun v j => v = .slice (some ⟨w.heap.size, 0, none⟩) 0 0 ∧ j = .int .i64 0) (fun _ _ => 0)
  case atStart => exact ⟨rfl, rfl⟩
  case round =>
    obtain ⟨rfl, rfl⟩ := hrel
    have hp : (0 : Int) < s.size := by omega
    go_wp2_with fail
    go_ret
    exact ⟨_, _, _, rfl, by rw [HL.out]; exact own_lit0b w _, (Below.refl _ _).alloc (Nat.le_refl _) _⟩
set_option maxRecDepth 100000 in
set_option maxHeartbeats 4000000 in
theorem implBlockDrop_any (s : ByteArray) (w : World) (hsz : s.size ≤ maxLen) :
    Calls Try.prog 40 #[.string s] w (RetL1 3 w.heap.size (Bk.dropL s.toList) w) := by
  unfold maxLen at hsz
  by_cases h30 : s.size ≤ 30
  · have HL : Hid (Bk.dropL s.toList = Bk.dr s.toList s.size) := by unfold Hid Bk.dropL; rw [if_pos (by rw [str_len']; exact h30), str_len']
    obtain ⟨i0, hi, hz0, hz1, hz2⟩ := info_parts Try.infoInt
    go_enter Try.func40, Try.ntmps40
    go_wp2_with fail
    go_loopw [3, 12] (fun v j wr => ∃ (k n : Nat) , k ≤ s.size ∧ n ≤ k ∧ j = .int .i64 k ∧ Hid (wr.ownsRow w.heap.size 3 1 v n ((Bk.dr s.toList k).map (Value.int .i64))) ∧ Hid (Below w.heap.size w wr)) (fun _ j _ => s.size - (intOf j).toNat)
    case atStart => exact ⟨0, 0, by omega, by omega, rfl, own_lit0b w _, (Below.refl _ _).alloc (Nat.le_refl _) _⟩
    case round =>
      obtain ⟨k, n, hk, hnk, rfl, Ho, Hb⟩ := hrel
      obtain ⟨A2, c2, rfl, hfc⟩ := own_form Ho.out
      obtain ⟨hkc, hcm, hfb⟩ := hfc
      have HFB := Lib.hid hfb
      clear hfb
      have hszw : w.heap.size ≤ wr.heap.size := Hb.out.size
      by_cases hlt : k < s.size
      · obtain ⟨X, hadd, hX, hXz⟩ : ∃ X : ByteArray, (∀ W : World, (Op.stringOp .add (s.extract 0 k) (s.extract (k + 1) s.size)).run Try.prog W = .ok (.string X) W) ∧ X.toList = s.toList.take k ++ s.toList.drop (k + 1) ∧ X.size ≤ maxLen :=
          ⟨_, fun W => run_string_add_sum W _ _ (by rw [← ByteArray.size_append]; have := cut_size s k; omega), cut_toList s k, by have := cut_size s k; unfold maxLen; omega⟩
        have HX := Lib.hid hX
        have HZ := Lib.hid hXz
        clear hX hXz
        have k0 : (0 : Int) ≤ (k : Int) + 1 := by omega
        have k1 : ((k : Int) + 1).toNat = k + 1 := by omega
        have k2 : (k : Int) + 1 ≤ s.size := by omega
        have k3 : (k : Int) ≤ s.size := by omega
        have w1 : IntKind.i64.wrap ((k : Int) + 1) = (k : Int) + 1 := IntWalk.i64_in _ (by omega)
        go_wp2_with fail
        go_still_tail 8, (by kernel_rfl)
        change wpList _ _ _ _ _ wr.drew
        clear w1 k1 hadd
        go_wp2_with fail
        refine (implBlockLegal_any X _ HZ.out).mono ?_
        rintro e w2 ⟨rfl, hb2⟩
        rw [HX.out]
        have hown : w2.ownsRow w.heap.size 3 1 (.slice A2 n c2) n ((Bk.dr s.toList k).map (Value.int .i64)) := own_belowAll (w := wr.drew) Ho.out hb2
        have Hb2 := Lib.hid (below_seq (w1 := wr.drew) Hb.out.drew hb2)
        have hszw2 : w.heap.size ≤ w2.heap.size := Hb2.out.size
        clear hb2
        have HO2 := Lib.hid hown
        cases hlg : Bk.legal (s.toList.take k ++ s.toList.drop (k + 1)) with
        | false =>
          have HD := Lib.hid (Bk.dr_no hlg)
          clear hlg hown
          go_wp2_with fail
          go_roundw
          case rel => exact ⟨k + 1, n, by omega, by omega, by go_num, by unfold Hid; rw [HD.out]; exact HO2.out, Hb2.out⟩
          case measure => simp [intOf]; omega
        | true =>
          have HD := Lib.hid (Bk.dr_yes hlg)
          clear hlg
          go_wp2_with (at_builtin; refine wpList_append_own _ rfl _ _ 46 rfl w.heap.size 3 i0 (.int .i64 0) 1 8 Try.underlying46 hi hz0 hz1 hz2 rfl (by decide) _ _ _ rfl (hown.alloc _) ⟨w2.heap.size, 0, none⟩ 1 1 [.int .i64 k] rfl rfl (cell_new _ _ _) (one_cell _ rfl) ?c3 ?c4 ?c5 ?_)
          case c3 => unfold maxLen; omega
          case c4 => omega
          case c5 => simp; omega
          intro v3 w3 hown3 hgrow3 _
          have Ho3 := Lib.hid hown3
          have Hb3 := Lib.hid (below_grown (Hb2.out.alloc hszw2 (.cells #[.int .i64 k] 3)) hgrow3 (by simp; omega) (fun r h => by have := own_form HO2.out; obtain ⟨_, _, e, _, _, hx⟩ := this; exact (HFB.out r h).1))
          clear hown hown3 hgrow3
          go_wp2_with fail
          go_roundw
          case rel => exact ⟨k + 1, n + 1, by omega, by omega, by go_num, by unfold Hid; rw [HD.out, List.map_append]; exact Ho3.out, Hb3.out⟩
          case measure => simp [intOf]; omega
      · have hkk : k = s.size := by omega
        subst hkk
        clear hlt
        go_wp2_with fail
        go_ret
        exact ⟨_, _, _, rfl, by rw [HL.out]; exact Ho.out, Hb.out⟩
  · exact implBlockDrop_big s w hsz (by omega)
set_option maxRecDepth 100000 in
set_option maxHeartbeats 4000000 in
theorem specBlockDrop_any (s : ByteArray) (w : World) (hsz : s.size ≤ maxLen) :
    Calls Try.prog 41 #[.string s] w (RetL1 3 w.heap.size (Bk.dropL s.toList) w) := by
  unfold maxLen at hsz
  by_cases h30 : s.size ≤ 30
  · have HL : Hid (Bk.dropL s.toList = Bk.dr s.toList s.size) := by unfold Hid Bk.dropL; rw [if_pos (by rw [str_len']; exact h30), str_len']
    obtain ⟨i0, hi, hz0, hz1, hz2⟩ := info_parts Try.infoInt
    go_enter Try.func41, Try.ntmps41
    go_wp2_with fail
    go_loopw [3, 4] (fun v j wr => ∃ (k n : Nat) , k ≤ s.size ∧ n ≤ k ∧ j = .int .i64 k ∧ Hid (wr.ownsRow w.heap.size 3 1 v n ((Bk.dr s.toList k).map (Value.int .i64))) ∧ Hid (Below w.heap.size w wr)) (fun _ j _ => s.size - (intOf j).toNat)
    case atStart => exact ⟨0, 0, by omega, by omega, rfl, own_lit0b w _, (Below.refl _ _).alloc (Nat.le_refl _) _⟩
    case round =>
      obtain ⟨k, n, hk, hnk, rfl, Ho, Hb⟩ := hrel
      obtain ⟨A2, c2, rfl, hfc⟩ := own_form Ho.out
      obtain ⟨hkc, hcm, hfb⟩ := hfc
      have HFB := Lib.hid hfb
      clear hfb
      have hszw : w.heap.size ≤ wr.heap.size := Hb.out.size
      by_cases hlt : k < s.size
      · obtain ⟨X, hadd, hX, hXz⟩ : ∃ X : ByteArray, (∀ W : World, (Op.stringOp .add (s.extract 0 k) (s.extract (k + 1) s.size)).run Try.prog W = .ok (.string X) W) ∧ X.toList = s.toList.take k ++ s.toList.drop (k + 1) ∧ X.size ≤ maxLen :=
          ⟨_, fun W => run_string_add_sum W _ _ (by rw [← ByteArray.size_append]; have := cut_size s k; omega), cut_toList s k, by have := cut_size s k; unfold maxLen; omega⟩
        have HX := Lib.hid hX
        have HZ := Lib.hid hXz
        clear hX hXz
        have k0 : (0 : Int) ≤ (k : Int) + 1 := by omega
        have k1 : ((k : Int) + 1).toNat = k + 1 := by omega
        have k2 : (k : Int) + 1 ≤ s.size := by omega
        have k3 : (k : Int) ≤ s.size := by omega
        have w1 : IntKind.i64.wrap ((k : Int) + 1) = (k : Int) + 1 := IntWalk.i64_in _ (by omega)
        go_wp2_with fail
        go_still_tail 8, (by kernel_rfl)
        change wpList _ _ _ _ _ wr.drew
        clear w1 k1 hadd
        go_wp2_with fail
        refine (specBlockLegal_any X _ HZ.out).mono ?_
        rintro e w2 ⟨rfl, hb2⟩
        rw [HX.out]
        have hown : w2.ownsRow w.heap.size 3 1 (.slice A2 n c2) n ((Bk.dr s.toList k).map (Value.int .i64)) := own_belowAll (w := wr.drew) Ho.out hb2
        have Hb2 := Lib.hid (below_seq (w1 := wr.drew) Hb.out.drew hb2)
        have hszw2 : w.heap.size ≤ w2.heap.size := Hb2.out.size
        clear hb2
        have HO2 := Lib.hid hown
        cases hlg : Bk.legal (s.toList.take k ++ s.toList.drop (k + 1)) with
        | false =>
          have HD := Lib.hid (Bk.dr_no hlg)
          clear hlg hown
          go_wp2_with fail
          go_roundw
          case rel => exact ⟨k + 1, n, by omega, by omega, by go_num, by unfold Hid; rw [HD.out]; exact HO2.out, Hb2.out⟩
          case measure => simp [intOf]; omega
        | true =>
          have HD := Lib.hid (Bk.dr_yes hlg)
          clear hlg
          go_wp2_with (at_builtin; refine wpList_append_own _ rfl _ _ 46 rfl w.heap.size 3 i0 (.int .i64 0) 1 8 Try.underlying46 hi hz0 hz1 hz2 rfl (by decide) _ _ _ rfl (hown.alloc _) ⟨w2.heap.size, 0, none⟩ 1 1 [.int .i64 k] rfl rfl (cell_new _ _ _) (one_cell _ rfl) ?c3 ?c4 ?c5 ?_)
          case c3 => unfold maxLen; omega
          case c4 => omega
          case c5 => simp; omega
          intro v3 w3 hown3 hgrow3 _
          have Ho3 := Lib.hid hown3
          have Hb3 := Lib.hid (below_grown (Hb2.out.alloc hszw2 (.cells #[.int .i64 k] 3)) hgrow3 (by simp; omega) (fun r h => by have := own_form HO2.out; obtain ⟨_, _, e, _, _, hx⟩ := this; exact (HFB.out r h).1))
          clear hown hown3 hgrow3
          go_wp2_with fail
          go_roundw
          case rel => exact ⟨k + 1, n + 1, by omega, by omega, by go_num, by unfold Hid; rw [HD.out, List.map_append]; exact Ho3.out, Hb3.out⟩
          case measure => simp [intOf]; omega
      · have hkk : k = s.size := by omega
        subst hkk
        clear hlt
        go_wp2_with fail
        go_ret
        exact ⟨_, _, _, rfl, by rw [HL.out]; exact Ho.out, Hb.out⟩
  · exact specBlockDrop_big s w hsz (by omega)
end Go.Proofs.Ytlneedjhdnjnpaa
