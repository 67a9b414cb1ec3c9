/-
  Contracts: BlockRepair of the program and of the reference.
  Conditions: none.
-/
import Derived.Test.YtlneedjhdnjnpaaBlkE
import Derived.Test.YtlneedjhdnjnpaaStrs
namespace Go.Proofs.Ytlneedjhdnjnpaa
open Go.RowKit
set_option linter.unusedVariables false
attribute [local go_sem ↓] Go.wp_at_zero Go.wp_at_succ run_eql_block run_neq_block

namespace Bk
/-- The text with the letter k put in at place p. -/
def putL (l : List UInt8) (p k : Nat) : List UInt8 := l.take p ++ [ev.getD k 0] ++ l.drop p
/-- A legal text is added once. -/
def addL (acc : List (List UInt8)) (x : List UInt8) : List (List UInt8) := if legal x = true ∧ ¬ x ∈ acc then acc ++ [x] else acc
def rpIn (l : List UInt8) (p : Nat) : Nat → List (List UInt8) → List (List UInt8)
  | 0, acc => acc
  | k + 1, acc => addL (rpIn l p k acc) (putL l p k)
def rpOut (l : List UInt8) : Nat → List (List UInt8)
  | 0 => []
  | p + 1 => rpIn l p 7 (rpOut l p)
/-- What BlockRepair returns. -/
def repairL (l : List UInt8) : List (List UInt8) := if l.length < 30 then rpOut l (l.length + 1) else []
theorem addL_illegal {acc : List (List UInt8)} {x : List UInt8} (h : legal x = false) : addL acc x = acc := by unfold addL; rw [if_neg (by simp [h])]
theorem addL_has {acc : List (List UInt8)} {x : List UInt8} (h : x ∈ acc) : addL acc x = acc := by unfold addL; rw [if_neg (fun h' => h'.2 h)]
theorem addL_new {acc : List (List UInt8)} {x : List UInt8} (h : legal x = true) (h2 : ¬ x ∈ acc) : addL acc x = acc ++ [x] := by unfold addL; rw [if_pos ⟨h, h2⟩]
theorem addL_len (acc : List (List UInt8)) (x : List UInt8) : (addL acc x).length ≤ acc.length + 1 := by unfold addL; split <;> simp
theorem rpIn_len (l : List UInt8) (p : Nat) (acc : List (List UInt8)) : ∀ k, (rpIn l p k acc).length ≤ acc.length + k
  | 0 => by simp [rpIn]
  | k + 1 => by
    have h1 := rpIn_len l p acc k
    have h2 := addL_len (rpIn l p k acc) (putL l p k)
    show (addL _ _).length ≤ _
    omega
theorem rpOut_len (l : List UInt8) : ∀ p, (rpOut l p).length ≤ 7 * p
  | 0 => by simp [rpOut]
  | p + 1 => by
    have h1 := rpOut_len l p
    have h2 := rpIn_len l p (rpOut l p) 7
    show (rpIn _ _ _ _).length ≤ _
    omega
theorem repairL_len (l : List UInt8) : (repairL l).length ≤ 210 := by
  unfold repairL
  split
  · have := rpOut_len l (l.length + 1); omega
  · simp
end Bk
/-- A list of texts as values. -/
def txs (ls : List (List UInt8)) : List Value := (ls.map mkS).map Value.string
theorem txs_append (a : List (List UInt8)) (x : List UInt8) : txs (a ++ [x]) = txs a ++ [.string (mkS x)] := by simp [txs]
theorem has_txs {ls : List (List UInt8)} {X : ByteArray} {x : List UInt8} (hX : X.toList = x) : X ∈ ls.map mkS ↔ x ∈ ls := by
  rw [List.mem_map]
  constructor
  · rintro ⟨y, hy, e⟩
    rw [← hX, ← e, mkS_toList]
    exact hy
  · intro h
    exact ⟨x, h, (mkS_eq hX).symm⟩
/-- A result list of texts in new memory. -/
def RetS (t : TypeId) (B : Nat) (ls : List (List UInt8)) (w : World) (e : Ending) (w' : World) : Prop :=
  ∃ A n c, e = .returned (.slice A n c) ∧ w'.ownsRow B t 1 (.slice A n c) n (txs ls) ∧ Below w.heap.size w w'
theorem put_facts (s : ByteArray) (p k : Nat) (hs : s.size < 30) (hp : p ≤ s.size) (hk : k < 7) : ∃ X1 X : ByteArray, (∀ W : World, (Op.stringOp .add (s.extract 0 p) (evS.extract k (k + 1))).run Try.prog W = .ok (.string X1) W) ∧ (∀ W : World, (Op.stringOp .add X1 (s.extract p s.size)).run Try.prog W = .ok (.string X) W) ∧ X.toList = Bk.putL s.toList p k ∧ X.size ≤ maxLen := by
  obtain ⟨c, hc⟩ := Bk.ev_at hk
  have h1 := evS_one hk hc
  have z1 : (s.extract 0 p).size ≤ 30 := by rw [← str_len', take_toList, List.length_take, str_len']; omega
  have z2 : (evS.extract k (k + 1)).size = 1 := by rw [← str_len', h1]; rfl
  have z3 : (s.extract p s.size).size ≤ 30 := by rw [← str_len', drop_toList, List.length_drop, str_len']; omega
  refine ⟨_, _, fun W => run_string_add_sum W _ _ (by omega), fun W => run_string_add_sum W _ _ (by rw [ByteArray.size_append]; omega), ?_, by rw [ByteArray.size_append, ByteArray.size_append]; unfold maxLen; omega⟩
  rw [append_toList, append_toList, take_toList, drop_toList, h1]
  unfold Bk.putL
  rw [List.getD_eq_getElem?_getD, hc]
  rfl
theorem Bk.repairL_big {s : ByteArray} (h : 30 ≤ s.size) : Bk.repairL s.toList = [] := by unfold Bk.repairL; rw [if_neg (by rw [str_len']; omega)]
set_option maxHeartbeats 1000000 in
theorem implBlockRepair_big (s : ByteArray) (w : World) (hsz : s.size ≤ 9223372036854775807) (h : 30 ≤ s.size) :
    Calls Try.prog 43 #[.string s] w (RetS 9 w.heap.size (Bk.repairL s.toList) w) := by
  have HL := Lib.hid (Bk.repairL_big h)
  have hb1s : (30 : Int) ≤ s.size := by omega
  clear h
  go_enter Try.func43, Try.ntmps43
  go_wp2_with fail
  go_ret
  exact ⟨_, _, _, rfl, by rw [HL.out]; exact own_lit0b w _, (Below.refl _ _).alloc (Nat.le_refl _) _⟩
set_option maxHeartbeats 1000000 in
theorem specBlockRepair_big (s : ByteArray) (w : World) (hsz : s.size ≤ 9223372036854775807) (h : 30 ≤ s.size) :
    Calls Try.prog 45 #[.string s] w (RetS 9 w.heap.size (Bk.repairL s.toList) w) := by
  have HL := Lib.hid (Bk.repairL_big h)
  have hb1s : (30 : Int) ≤ s.size := by omega
  clear h
  go_enter Try.func45, Try.ntmps45
  go_wp2_with fail
  go_loop [3, 5] (fun v j => v = .slice (some ⟨w.heap.size, 0, none⟩) 0 0 ∧ j = .int .i64 0) (fun _ _ => 0)
  case atStart => exact ⟨rfl, rfl⟩
  case round =>
    obtain ⟨rfl, rfl⟩ := hrel
    have hp : (0 : Int) ≤ s.size := by omega
    go_wp2_with fail
    go_ret
    exact ⟨_, _, _, rfl, by rw [HL.out]; exact own_lit0b w _, (Below.refl _ _).alloc (Nat.le_refl _) _⟩
set_option maxRecDepth 100000 in
set_option maxHeartbeats 8000000 in
theorem implBlockRepair_any (s : ByteArray) (w : World) (hsz : s.size ≤ maxLen) :
    Calls Try.prog 43 #[.string s] w (RetS 9 w.heap.size (Bk.repairL s.toList) w) := by
  unfold maxLen at hsz
  by_cases h30 : s.size < 30
  · have HL : Hid (Bk.repairL s.toList = Bk.rpOut s.toList (s.size + 1)) := by unfold Hid Bk.repairL; rw [if_pos (by rw [str_len']; exact h30), str_len']
    have h30' : (s.size : Int) < 30 := by omega
    clear hsz
    obtain ⟨i0, hi, hz0, hz1, hz2⟩ := info_parts Try.infoStr
    go_enter Try.func43, Try.ntmps43
    go_wp2_with fail
    go_loopw [3, 15] (fun v j wr => ∃ (p n : Nat), p ≤ s.size + 1 ∧ n ≤ 7 * p ∧ j = .int .i64 p ∧ Hid (wr.ownsRow w.heap.size 9 1 v n (txs (Bk.rpOut s.toList p))) ∧ Hid (Below w.heap.size w wr)) (fun _ j _ => s.size + 1 - (intOf j).toNat)
    case atStart => exact ⟨0, 0, by omega, by omega, rfl, own_lit0b w _, (Below.refl _ _).alloc (Nat.le_refl _) _⟩
    case round =>
      obtain ⟨p, n, hp, hnp, rfl, Ho, Hb⟩ := hrel
      obtain ⟨A2, c2, rfl, hfc⟩ := own_form Ho.out
      clear hfc
      by_cases hlt : p ≤ s.size
      · obtain ⟨wo, rfl⟩ : ∃ wo : World, wo = wr := ⟨_, rfl⟩
        have hpb : decide ((p : Int) < (s.size : Int) + 1) = true := decide_eq_true (by omega)
        go_wp2_with fail
        go_loopw [3, 18] (fun v j wi => ∃ (k n' : Nat), k ≤ 7 ∧ n' ≤ 7 * p + k ∧ j = .int .i64 k ∧ Hid (wi.ownsRow w.heap.size 9 1 v n' (txs (Bk.rpIn s.toList p k (Bk.rpOut s.toList p)))) ∧ Hid (Below w.heap.size w wi)) (fun _ j _ => 7 - (intOf j).toNat)
        case atStart => exact ⟨0, n, by omega, by omega, rfl, Ho, Hb⟩
        case round =>
          clear Ho Hb
          obtain ⟨k, n', hk, hnk, rfl, Ho, Hb⟩ := hrel
          obtain ⟨A3, c3, rfl, hfc⟩ := own_form Ho.out
          obtain ⟨hkc, hcm, hfb⟩ := hfc
          have HFB := Lib.hid hfb
          clear hfb
          have hszw : w.heap.size ≤ wr.heap.size := Hb.out.size
          by_cases hlk : k < 7
          · obtain ⟨X1, X, ha1, ha2, hX, hXz⟩ := put_facts s p k h30 hlt hlk
            have HX := Lib.hid hX
            have HZ := Lib.hid hXz
            clear hX hXz
            have k0 : (0 : Int) ≤ (k : Int) + 1 := by omega
            have k1 : ((k : Int) + 1).toNat = k + 1 := by omega
            have k2 : (k : Int) + 1 ≤ 7 := by omega
            have k3 : (p : Int) ≤ s.size := by omega
            have w1 : IntKind.i64.wrap ((k : Int) + 1) = (k : Int) + 1 := IntWalk.i64_in _ (by omega)
            have hsl : ∀ W : World, (Instr.slice 9 (.string evS) (some (.int .i64 (k : Int))) (some (.int .i64 ((k : Int) + 1))) none).run Try.prog W = .ok (.string (evS.extract k (k + 1))) W := fun W => slice_one W evS k hlk
            go_wp2_with fail
            go_still_tail 12, (by kernel_rfl)
            change wpList _ _ _ _ _ wr.drew
            clear w1 k1 ha1 ha2 hsl
            go_wp2_with fail
            refine (implBlockLegal_any X _ HZ.out).mono ?_
            rintro e w2 ⟨rfl, hb2⟩
            rw [HX.out]
            have hown : w2.ownsRow w.heap.size 9 1 (.slice A3 n' c3) n' (txs (Bk.rpIn s.toList p k (Bk.rpOut s.toList p))) := own_belowAll (w := wr.drew) Ho.out hb2
            have Hb2 := Lib.hid (below_seq (w1 := wr.drew) Hb.out.drew hb2)
            have hszw2 : w.heap.size ≤ w2.heap.size := Hb2.out.size
            clear hb2
            have HO2 := Lib.hid hown
            cases hlg : Bk.legal (Bk.putL s.toList p k) with
            | false =>
              have HD : Hid (Bk.rpIn s.toList p (k + 1) (Bk.rpOut s.toList p) = Bk.rpIn s.toList p k (Bk.rpOut s.toList p)) := Bk.addL_illegal hlg
              clear hlg hown
              go_wp2_with fail
              go_roundw
              case rel => first | exact ⟨k + 1, n', by omega, by omega, by go_num, by unfold Hid; rw [HD.out]; exact HO2.out, Hb2.out⟩ | ((repeat apply Exists.intro); exact ⟨⟨k + 1, n', by omega, by omega, by go_num, by unfold Hid; rw [HD.out]; exact HO2.out, Hb2.out⟩, rfl⟩)
              case measure => simp [intOf]; omega
            | true =>
              have HLG := Lib.hid hlg
              clear hlg
              go_wp2_with fail
              refine (hasText_any _ _ _ ((Bk.rpIn s.toList p k (Bk.rpOut s.toList p)).map mkS) X _ (RdS.of_own HO2.out) (by omega)).mono ?_
              rintro e w3 ⟨rfl, rfl⟩
              by_cases hin : Bk.putL s.toList p k ∈ Bk.rpIn s.toList p k (Bk.rpOut s.toList p)
              · rw [hasB_yes ((has_txs HX.out).2 hin)]
                have HD : Hid (Bk.rpIn s.toList p (k + 1) (Bk.rpOut s.toList p) = Bk.rpIn s.toList p k (Bk.rpOut s.toList p)) := Bk.addL_has hin
                clear hin hown
                go_wp2_with fail
                go_roundw
                case rel => first | exact ⟨k + 1, n', by omega, by omega, by go_num, by unfold Hid; rw [HD.out]; exact HO2.out, Hb2.out⟩ | ((repeat apply Exists.intro); exact ⟨⟨k + 1, n', by omega, by omega, by go_num, by unfold Hid; rw [HD.out]; exact HO2.out, Hb2.out⟩, rfl⟩)
                case measure => simp [intOf]; omega
              · rw [hasB_no (fun h => hin ((has_txs HX.out).1 h))]
                have HD : Hid (Bk.rpIn s.toList p (k + 1) (Bk.rpOut s.toList p) = Bk.rpIn s.toList p k (Bk.rpOut s.toList p) ++ [Bk.putL s.toList p k]) := Bk.addL_new HLG.out hin
                have HXM : Hid (X = mkS (Bk.putL s.toList p k)) := mkS_eq HX.out
                clear hin
                go_wp2_with (at_builtin; refine wpList_append_own _ rfl _ _ 49 rfl w.heap.size 9 i0 (.string ⟨#[]⟩) 1 16 Try.underlying49 hi hz0 hz1 hz2 rfl (by decide) _ _ _ rfl (hown.alloc _) ⟨w2.heap.size, 0, none⟩ 1 1 [.string X] rfl rfl (cell_new _ _ _) (one_cell _ rfl) ?c3 ?c4 ?c5 ?_)
                case c3 => unfold maxLen; omega
                case c4 => omega
                case c5 => simp; omega
                intro v3 w3 hown3 hgrow3 _
                have Ho3 := Lib.hid hown3
                have Hb3 := Lib.hid (below_grown (Hb2.out.alloc hszw2 (.cells #[.string X] 9)) hgrow3 (by simp; omega) (fun r h => (HFB.out r h).1))
                clear hown hown3 hgrow3
                go_wp2_with fail
                go_roundw
                case rel => first | exact ⟨k + 1, n' + 1, by omega, by omega, by go_num, by unfold Hid; rw [HD.out, txs_append, ← HXM.out]; exact Ho3.out, Hb3.out⟩ | ((repeat apply Exists.intro); exact ⟨⟨k + 1, n' + 1, by omega, by omega, by go_num, by unfold Hid; rw [HD.out, txs_append, ← HXM.out]; exact Ho3.out, Hb3.out⟩, rfl⟩)
                case measure => simp [intOf]; omega
          · have hkk : k = 7 := by omega
            subst hkk
            clear hlk
            go_wp2_with fail
            go_roundw
            case rel => exact ⟨p + 1, n', by omega, by omega, by go_num, Ho, Hb⟩
            case measure => simp [intOf]; omega
      · have hpp : p = s.size + 1 := by omega
        have HOE : Hid (wr.ownsRow w.heap.size 9 1 (.slice A2 n c2) n (txs (Bk.repairL s.toList))) := by unfold Hid; rw [HL.out, ← hpp]; exact Ho.out
        have hpi : ¬ (p : Int) ≤ s.size := by omega
        clear hlt hpp
        go_wp2_with fail
        go_ret
        exact ⟨_, _, _, rfl, HOE.out, Hb.out⟩
  · exact implBlockRepair_big s w hsz (by omega)
set_option maxRecDepth 100000 in
set_option maxHeartbeats 8000000 in
theorem specBlockRepair_any (s : ByteArray) (w : World) (hsz : s.size ≤ maxLen) :
    Calls Try.prog 45 #[.string s] w (RetS 9 w.heap.size (Bk.repairL s.toList) w) := by
  unfold maxLen at hsz
  by_cases h30 : s.size < 30
  · have HL : Hid (Bk.repairL s.toList = Bk.rpOut s.toList (s.size + 1)) := by unfold Hid Bk.repairL; rw [if_pos (by rw [str_len']; exact h30), str_len']
    have h30' : (s.size : Int) < 30 := by omega
    clear hsz
    obtain ⟨i0, hi, hz0, hz1, hz2⟩ := info_parts Try.infoStr
    go_enter Try.func45, Try.ntmps45
    go_wp2_with fail
    go_loopw [3, 5] (fun v j wr => ∃ (p n : Nat), p ≤ s.size + 1 ∧ n ≤ 7 * p ∧ j = .int .i64 p ∧ Hid (wr.ownsRow w.heap.size 9 1 v n (txs (Bk.rpOut s.toList p))) ∧ Hid (Below w.heap.size w wr)) (fun _ j _ => s.size + 1 - (intOf j).toNat)
    case atStart => exact ⟨0, 0, by omega, by omega, rfl, own_lit0b w _, (Below.refl _ _).alloc (Nat.le_refl _) _⟩
    case round =>
      obtain ⟨p, n, hp, hnp, rfl, Ho, Hb⟩ := hrel
      obtain ⟨A2, c2, rfl, hfc⟩ := own_form Ho.out
      clear hfc
      by_cases hlt : p ≤ s.size
      · obtain ⟨wo, rfl⟩ : ∃ wo : World, wo = wr := ⟨_, rfl⟩
        have hpb : decide ((p : Int) < (s.size : Int) + 1) = true := decide_eq_true (by omega)
        go_wp2_with fail
        go_loopw [3, 6] (fun v j wi => ∃ (k n' : Nat), k ≤ 7 ∧ n' ≤ 7 * p + k ∧ j = .int .i64 k ∧ Hid (wi.ownsRow w.heap.size 9 1 v n' (txs (Bk.rpIn s.toList p k (Bk.rpOut s.toList p)))) ∧ Hid (Below w.heap.size w wi)) (fun _ j _ => 7 - (intOf j).toNat)
        case atStart => exact ⟨0, n, by omega, by omega, rfl, Ho, Hb⟩
        case round =>
          clear Ho Hb
          obtain ⟨k, n', hk, hnk, rfl, Ho, Hb⟩ := hrel
          obtain ⟨A3, c3, rfl, hfc⟩ := own_form Ho.out
          obtain ⟨hkc, hcm, hfb⟩ := hfc
          have HFB := Lib.hid hfb
          clear hfb
          have hszw : w.heap.size ≤ wr.heap.size := Hb.out.size
          by_cases hlk : k < 7
          · obtain ⟨X1, X, ha1, ha2, hX, hXz⟩ := put_facts s p k h30 hlt hlk
            have HX := Lib.hid hX
            have HZ := Lib.hid hXz
            clear hX hXz
            have k0 : (0 : Int) ≤ (k : Int) + 1 := by omega
            have k1 : ((k : Int) + 1).toNat = k + 1 := by omega
            have k2 : (k : Int) + 1 ≤ 7 := by omega
            have k3 : (p : Int) ≤ s.size := by omega
            have w1 : IntKind.i64.wrap ((k : Int) + 1) = (k : Int) + 1 := IntWalk.i64_in _ (by omega)
            have hsl : ∀ W : World, (Instr.slice 9 (.string evS) (some (.int .i64 (k : Int))) (some (.int .i64 ((k : Int) + 1))) none).run Try.prog W = .ok (.string (evS.extract k (k + 1))) W := fun W => slice_one W evS k hlk
            go_wp2_with fail
            go_still_tail 13, (by kernel_rfl)
            change wpList _ _ _ _ _ wr.drew
            clear w1 k1 ha1 ha2 hsl
            go_wp2_with fail
            refine (specBlockLegal_any X _ HZ.out).mono ?_
            rintro e w2 ⟨rfl, hb2⟩
            rw [HX.out]
            have hown : w2.ownsRow w.heap.size 9 1 (.slice A3 n' c3) n' (txs (Bk.rpIn s.toList p k (Bk.rpOut s.toList p))) := own_belowAll (w := wr.drew) Ho.out hb2
            have Hb2 := Lib.hid (below_seq (w1 := wr.drew) Hb.out.drew hb2)
            have hszw2 : w.heap.size ≤ w2.heap.size := Hb2.out.size
            clear hb2
            have HO2 := Lib.hid hown
            cases hlg : Bk.legal (Bk.putL s.toList p k) with
            | false =>
              have HD : Hid (Bk.rpIn s.toList p (k + 1) (Bk.rpOut s.toList p) = Bk.rpIn s.toList p k (Bk.rpOut s.toList p)) := Bk.addL_illegal hlg
              clear hlg hown
              go_wp2_with fail
              go_roundw
              case rel => first | exact ⟨k + 1, n', by omega, by omega, by go_num, by unfold Hid; rw [HD.out]; exact HO2.out, Hb2.out⟩ | ((repeat apply Exists.intro); exact ⟨⟨k + 1, n', by omega, by omega, by go_num, by unfold Hid; rw [HD.out]; exact HO2.out, Hb2.out⟩, rfl⟩)
              case measure => simp [intOf]; omega
            | true =>
              have HLG := Lib.hid hlg
              clear hlg
              go_wp2_with fail
              refine (l3Has_any _ _ _ ((Bk.rpIn s.toList p k (Bk.rpOut s.toList p)).map mkS) X _ (RdS.of_own HO2.out) (by omega)).mono ?_
              rintro e w3 ⟨rfl, rfl⟩
              by_cases hin : Bk.putL s.toList p k ∈ Bk.rpIn s.toList p k (Bk.rpOut s.toList p)
              · rw [hasB_yes ((has_txs HX.out).2 hin)]
                have HD : Hid (Bk.rpIn s.toList p (k + 1) (Bk.rpOut s.toList p) = Bk.rpIn s.toList p k (Bk.rpOut s.toList p)) := Bk.addL_has hin
                clear hin hown
                go_wp2_with fail
                go_roundw
                case rel => first | exact ⟨k + 1, n', by omega, by omega, by go_num, by unfold Hid; rw [HD.out]; exact HO2.out, Hb2.out⟩ | ((repeat apply Exists.intro); exact ⟨⟨k + 1, n', by omega, by omega, by go_num, by unfold Hid; rw [HD.out]; exact HO2.out, Hb2.out⟩, rfl⟩)
                case measure => simp [intOf]; omega
              · rw [hasB_no (fun h => hin ((has_txs HX.out).1 h))]
                have HD : Hid (Bk.rpIn s.toList p (k + 1) (Bk.rpOut s.toList p) = Bk.rpIn s.toList p k (Bk.rpOut s.toList p) ++ [Bk.putL s.toList p k]) := Bk.addL_new HLG.out hin
                have HXM : Hid (X = mkS (Bk.putL s.toList p k)) := mkS_eq HX.out
                clear hin
                go_wp2_with (at_builtin; refine wpList_append_own _ rfl _ _ 49 rfl w.heap.size 9 i0 (.string ⟨#[]⟩) 1 16 Try.underlying49 hi hz0 hz1 hz2 rfl (by decide) _ _ _ rfl (hown.alloc _) ⟨w2.heap.size, 0, none⟩ 1 1 [.string X] rfl rfl (cell_new _ _ _) (one_cell _ rfl) ?c3 ?c4 ?c5 ?_)
                case c3 => unfold maxLen; omega
                case c4 => omega
                case c5 => simp; omega
                intro v3 w3 hown3 hgrow3 _
                have Ho3 := Lib.hid hown3
                have Hb3 := Lib.hid (below_grown (Hb2.out.alloc hszw2 (.cells #[.string X] 9)) hgrow3 (by simp; omega) (fun r h => (HFB.out r h).1))
                clear hown hown3 hgrow3
                go_wp2_with fail
                go_roundw
                case rel => first | exact ⟨k + 1, n' + 1, by omega, by omega, by go_num, by unfold Hid; rw [HD.out, txs_append, ← HXM.out]; exact Ho3.out, Hb3.out⟩ | ((repeat apply Exists.intro); exact ⟨⟨k + 1, n' + 1, by omega, by omega, by go_num, by unfold Hid; rw [HD.out, txs_append, ← HXM.out]; exact Ho3.out, Hb3.out⟩, rfl⟩)
                case measure => simp [intOf]; omega
          · have hkk : k = 7 := by omega
            subst hkk
            clear hlk
            go_wp2_with fail
            go_roundw
            case rel => exact ⟨p + 1, n', by omega, by omega, by go_num, Ho, Hb⟩
            case measure => simp [intOf]; omega
      · have hpp : p = s.size + 1 := by omega
        have HOE : Hid (wr.ownsRow w.heap.size 9 1 (.slice A2 n c2) n (txs (Bk.repairL s.toList))) := by unfold Hid; rw [HL.out, ← hpp]; exact Ho.out
        have hpi : ¬ (p : Int) ≤ s.size := by omega
        clear hlt hpp
        go_wp2_with fail
        go_ret
        exact ⟨_, _, _, rfl, HOE.out, Hb.out⟩
  · exact specBlockRepair_big s w hsz (by omega)
end Go.Proofs.Ytlneedjhdnjnpaa
