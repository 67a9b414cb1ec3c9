/-
  Contracts of helpers over []string: eqStringS and sameTexts compare two lists; hasText and l3Has look for a text; markText, markStringS, heldStringS mark a list of texts and look at it again.
  Conditions: the slices read as lists of strings, of at most 2^40 elements.
-/
import Derived.Test.YtlneedjhdnjnpaaInts
import Derived.Test.YtlneedjhdnjnpaaBlkB
namespace Go.Proofs.Ytlneedjhdnjnpaa
open Go.RowKit
set_option linter.unusedVariables false

theorem Try.infoStr : (Try.prog.info? 9).map (fun i => (i.zero, i.size, i.bytes)) = some (some (.string ⟨#[]⟩), 1, 16) := by kernel_rfl

/-- The slice value '.slice A n c' holds the texts ss. -/
def RdS (w : World) (A : Option Addr) (n : Nat) (ss : List ByteArray) : Prop := Rd w A n (ss.map Value.string)
section
variable {w w' : World} {n : Nat} {A : Option Addr} {ss : List ByteArray}
theorem RdS.len (h : RdS w A n ss) : ss.length = n := by simpa using h.1
theorem RdS.at_ {k : Nat} (h : RdS w A n ss) (hk : k < n) : ∃ b off z, A = some ⟨b, off, none⟩ ∧ ss[k]? = some z ∧ w.cell? ⟨b, off + k, none⟩ = some (.string z) := by
  obtain ⟨b, off, u, e, hu, hc⟩ := Rd.at_ h hk
  rw [List.getElem?_map] at hu
  obtain ⟨z, hz, rfl⟩ := Option.map_eq_some_iff.1 hu
  exact ⟨b, off, z, e, hz, hc⟩
theorem RdS.below (h : RdS w A n ss) (hb : Below w.heap.size w w') : RdS w' A n ss := Rd.below h hb
theorem RdS.drewN (h : RdS w A n ss) (k : Nat) : RdS (w.drewN k) A n ss := h
theorem RdS.of_own {base : Nat} {e : TypeId} {c : Nat} (h : w.ownsRow base e 1 (.slice A n c) n (ss.map Value.string)) : RdS w A n ss := Rd.of_own h
end
theorem str_inj {a b : ByteArray} (h : a.toList = b.toList) : a = b := by
  rw [mkS_eq h, ← mkS_eq (s := b) rfl]
theorem str_eqb {a b : ByteArray} (h : a = b) : (a.toList == b.toList) = true := by rw [h]; simp
theorem str_neb {a b : ByteArray} (h : ¬ a = b) : (a.toList == b.toList) = false := by
  rw [beq_eq_false_iff_ne]
  exact fun e => h (str_inj e)

theorem slice_one (W : World) (s : ByteArray) (k : Nat) (h : k < s.size) : (Instr.slice 9 (.string s) (some (.int .i64 (k : Int))) (some (.int .i64 ((k : Int) + 1))) none).run Try.prog W = .ok (.string (s.extract k (k + 1))) W := by
  rw [run_slice_string W 9 s .i64 .i64 (k : Int) ((k : Int) + 1) Try.underlying9 (by omega) (by omega) (by omega)]
  rfl
set_option maxHeartbeats 1000000 in
theorem sameTexts_any (A A' : Option Addr) (n n' c c' : Nat) (xs ys : List ByteArray) (w : World) (hx : RdS w A n xs) (hy : RdS w A' n' ys) (hn : n ≤ 1099511627776) :
    Calls Try.prog 46 #[.slice A n c, .slice A' n' c'] w fun e w' => e = .returned (.bool (decide (xs = ys))) ∧ ∃ m, w' = w.drewN m := by
  have HX := Lib.hid hx
  have HY := Lib.hid hy
  have Hlx := Lib.hid hx.len
  have Hly := Lib.hid hy.len
  clear hx hy
  by_cases hnn : n = n'
  · subst hnn
    go_enter Try.func46, Try.ntmps46
    go_wp2
    go_loopw [5] (fun i wr => ∃ k : Nat, k ≤ n ∧ i = .int .i64 k ∧ Hid (xs.take k = ys.take k) ∧ ∃ m, wr = w.drewN m) (fun i _ => n - (intOf i).toNat)
    case atStart => exact ⟨0, Nat.zero_le _, rfl, by simp [Hid], 0, rfl⟩
    case round =>
      obtain ⟨k, hk, rfl, Hk, m, rfl⟩ := hrel
      by_cases hlt : k < n
      · obtain ⟨b, off, x, rfl, hxk, hcx⟩ := HX.out.at_ hlt
        obtain ⟨b', off', y, rfl, hyk, hcy⟩ := HY.out.at_ hlt
        have HXK := Lib.hid hxk
        have HYK := Lib.hid hyk
        clear hxk hyk
        by_cases hxy : x = y
        · subst hxy
          go_wp2
          go_quiet (fail)
          go_wp2
          go_roundw
          case rel => exact ⟨k + 1, by omega, by go_num, by unfold Hid; rw [take_snoc HXK.out, take_snoc HYK.out, Hk.out], by first | exact ⟨_, rfl⟩ | exact ex_drew _ _ _⟩
          case measure => simp [intOf]; omega
        · have hne : (x.toList == y.toList) = false := str_neb hxy
          have HN := Lib.hid hxy
          clear hxy
          go_wp2
          go_quiet (fail)
          go_wp2
          go_ret
          refine ⟨ret_bool ?_, by first | exact ⟨_, rfl⟩ | exact ex_drew _ _ _⟩
          symm
          refine decide_eq_false ?_
          intro e
          have h1 := HXK.out
          rw [e, HYK.out] at h1
          exact HN.out (Option.some.inj h1).symm
      · go_wp2
        go_ret
        refine ⟨ret_bool ?_, _, rfl⟩
        symm
        refine decide_eq_true ?_
        have h1 := Hk.out
        rwa [List.take_of_length_le (by have := Hlx.out; omega), List.take_of_length_le (by have := Hly.out; omega)] at h1
  · have hne : ((n : Int) != (n' : Int)) = true := by simp; omega
    go_enter Try.func46, Try.ntmps46
    go_wp2
    go_ret
    refine ⟨ret_bool ?_, 0, rfl⟩
    symm
    refine decide_eq_false ?_
    rintro rfl
    exact hnn (Hlx.out.symm.trans Hly.out)
/-- Whether a list has a text. -/
def hasB (ss : List ByteArray) (t : ByteArray) : Bool := decide (t.toList ∈ ss.map ByteArray.toList)
theorem hasB_iff {ss : List ByteArray} {t : ByteArray} : t.toList ∈ ss.map ByteArray.toList ↔ t ∈ ss := by
  rw [List.mem_map]
  constructor
  · rintro ⟨x, hx, e⟩; rw [← str_inj e]; exact hx
  · intro h; exact ⟨t, h, rfl⟩
theorem hasB_yes {ss : List ByteArray} {t : ByteArray} (h : t ∈ ss) : hasB ss t = true := decide_eq_true (hasB_iff.2 h)
theorem hasB_no {ss : List ByteArray} {t : ByteArray} (h : ¬ t ∈ ss) : hasB ss t = false := decide_eq_false (fun h' => h (hasB_iff.1 h'))
set_option maxHeartbeats 1000000 in
theorem hasText_any (A : Option Addr) (n c : Nat) (ss : List ByteArray) (t : ByteArray) (w : World) (hx : RdS w A n ss) (hn : n ≤ 1099511627776) :
    Calls Try.prog 70 #[.slice A n c, .string t] w fun e w' => e = .returned (.bool (hasB ss t)) ∧ w = w' := by
  have HX := Lib.hid hx
  have Hlx := Lib.hid hx.len
  clear hx
  go_enter Try.func70, Try.ntmps70
  go_wp2_with fail
  go_loop [9] (fun i => ∃ k : Nat, k ≤ n ∧ i = .int .i64 k ∧ Hid (¬ t ∈ ss.take k)) (fun i => n - (intOf i).toNat)
  case atStart => exact ⟨0, Nat.zero_le _, rfl, by simp [Hid]⟩
  case round =>
    obtain ⟨k, hk, rfl, Hk⟩ := hrel
    by_cases hlt : k < n
    · obtain ⟨b, off, x, rfl, hxk, hcx⟩ := HX.out.at_ hlt
      have HXK := Lib.hid hxk
      clear hxk
      by_cases hxt : x = t
      · have hb := str_eqb hxt
        have HB : Hid (hasB ss t = true) := by
          unfold Hid
          refine hasB_yes ?_
          rw [← hxt]
          exact List.mem_of_getElem? HXK.out
        clear hxt
        go_wp2_with fail
        go_ret
        exact ⟨ret_bool HB.out.symm, rfl⟩
      · have hb := str_neb hxt
        have HN : Hid (¬ t ∈ ss.take (k + 1)) := by
          unfold Hid
          rw [take_snoc HXK.out, List.mem_append]
          rintro (h | h)
          · exact Hk.out h
          · simp at h; exact hxt h.symm
        clear hxt
        go_wp2_with fail
        go_round
        case rel => exact ⟨k + 1, by omega, by go_num, HN⟩
        case measure => simp [intOf]; omega
    · have HB : Hid (hasB ss t = false) := by
        unfold Hid
        refine hasB_no ?_
        have h1 := Hk.out
        rwa [List.take_of_length_le (by have := Hlx.out; omega)] at h1
      go_wp2_with fail
      go_ret
      exact ⟨ret_bool HB.out.symm, rfl⟩
set_option maxHeartbeats 1000000 in
theorem l3Has_any (A : Option Addr) (n c : Nat) (ss : List ByteArray) (t : ByteArray) (w : World) (hx : RdS w A n ss) (hn : n ≤ 1099511627776) :
    Calls Try.prog 72 #[.slice A n c, .string t] w fun e w' => e = .returned (.bool (hasB ss t)) ∧ w = w' := by
  have HX := Lib.hid hx
  have Hlx := Lib.hid hx.len
  clear hx
  go_enter Try.func72, Try.ntmps72
  go_wp2_with fail
  go_loop [5] (fun i => ∃ k : Nat, k ≤ n ∧ i = .int .i64 k ∧ Hid (¬ t ∈ ss.take k)) (fun i => n - (intOf i).toNat)
  case atStart => exact ⟨0, Nat.zero_le _, rfl, by simp [Hid]⟩
  case round =>
    obtain ⟨k, hk, rfl, Hk⟩ := hrel
    by_cases hlt : k < n
    · obtain ⟨b, off, x, rfl, hxk, hcx⟩ := HX.out.at_ hlt
      have HXK := Lib.hid hxk
      clear hxk
      by_cases hxt : x = t
      · have hb := str_eqb hxt
        have HB : Hid (hasB ss t = true) := by
          unfold Hid
          refine hasB_yes ?_
          rw [← hxt]
          exact List.mem_of_getElem? HXK.out
        clear hxt
        go_wp2_with fail
        go_ret
        exact ⟨ret_bool HB.out.symm, rfl⟩
      · have hb := str_neb hxt
        have HN : Hid (¬ t ∈ ss.take (k + 1)) := by
          unfold Hid
          rw [take_snoc HXK.out, List.mem_append]
          rintro (h | h)
          · exact Hk.out h
          · simp at h; exact hxt h.symm
        clear hxt
        go_wp2_with fail
        go_round
        case rel => exact ⟨k + 1, by omega, by go_num, HN⟩
        case measure => simp [intOf]; omega
    · have HB : Hid (hasB ss t = false) := by
        unfold Hid
        refine hasB_no ?_
        have h1 := Hk.out
        rwa [List.take_of_length_le (by have := Hlx.out; omega)] at h1
      go_wp2_with fail
      go_ret
      exact ⟨ret_bool HB.out.symm, rfl⟩
/-- The decimal digits of a number, none of 0. -/
def digs (k : Nat) : List UInt8 := if h : k = 0 then [] else digs (k / 10) ++ [UInt8.ofNat (48 + k % 10)]
theorem digs_zero : digs 0 = [] := by unfold digs; rfl
theorem digs_pos {k : Nat} (h : 0 < k) : digs k = digs (k / 10) ++ [UInt8.ofNat (48 + k % 10)] := by
  rw [digs, dif_neg (by omega)]
theorem digs_len : ∀ (k : Nat), (digs k).length ≤ k := by
  intro k
  induction k using Nat.strongRecOn with
  | ind k ih =>
    by_cases h : k = 0
    · subst h; rw [digs_zero]; simp
    · rw [digs_pos (by omega), List.length_append]
      have := ih (k / 10) (by omega)
      simp
      omega
/-- What markText returns at a number above 0. -/
def mtxt (k : Nat) : ByteArray := mkS (109 :: digs k)
/-- mtxt k, mtxt (k + 1), .. : n texts. -/
def marks (k n : Nat) : List ByteArray := (List.range n).map fun i => mtxt (k + i)
theorem marks_len (k n : Nat) : (marks k n).length = n := by simp [marks]
theorem marks_at (k n j : Nat) (h : j < n) : (marks k n)[j]? = some (mtxt (k + j)) := by simp [marks, h]
theorem marks_set (k n j : Nat) (zs : List ByteArray) (hz : zs.length = n) (hj : j < n) : ((marks k j) ++ zs.drop j).set j (mtxt (k + j)) = marks k (j + 1) ++ zs.drop (j + 1) := by
  rw [List.set_append_right _ _ (by rw [marks_len]; exact Nat.le_refl _), marks_len, Nat.sub_self]
  have e : zs.drop j = zs[j]'(by omega) :: zs.drop (j + 1) := List.drop_eq_getElem_cons (by omega)
  rw [e, List.set_cons_zero]
  unfold marks
  rw [List.range_succ, List.map_append]
  simp
end Go.Proofs.Ytlneedjhdnjnpaa
