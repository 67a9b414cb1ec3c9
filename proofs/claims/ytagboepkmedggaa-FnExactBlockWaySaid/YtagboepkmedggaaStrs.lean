/-
  Contracts of helpers over []string: eqStringS and sameTexts compare two lists; hasText and l3Has look for a text; markText, markStringS, heldStringS mark a list of texts and look at it again.
  Conditions: the slices read as lists of strings, of at most 2^40 elements.
-/
import Derived.Test.YtagboepkmedggaaInts
import Derived.Test.YtagboepkmedggaaBlkB
namespace Go.Proofs.Ytagboepkmedggaa
open Go.RowKit
set_option linter.unusedVariables false

theorem Try.infoStr : (Try.prog.info? 9).map (fun i => (i.zero, i.size, i.bytes)) = some (some (.string ⟨#[]⟩), 1, 16) := by kernel_rfl

/-- The slice value '.slice A n c' holds the texts ss. -/
def RdS (w : World) (A : Option Addr) (n : Nat) (ss : List ByteArray) : Prop := Rd w A n (ss.map Value.string)
section
variable {w w' : World} {n : Nat} {A : Option Addr} {ss : List ByteArray}
theorem RdS.len (h : RdS w A n ss) : ss.length = n := by simpa using h.1
theorem RdS.at_ {k : Nat} (h : RdS w A n ss) (hk : k < n) : ∃ b off z, A = some ⟨b, off, none⟩ ∧ ss[k]? = some z ∧ w.cell? ⟨b, off + k, none⟩ = some (.string z) := by
  obtain ⟨b, off, u, e, hu, hc⟩ := Rd.at_ h hk
  rw [List.getElem?_map] at hu
  obtain ⟨z, hz, rfl⟩ := Option.map_eq_some_iff.1 hu
  exact ⟨b, off, z, e, hz, hc⟩
theorem RdS.below (h : RdS w A n ss) (hb : Below w.heap.size w w') : RdS w' A n ss := Rd.below h hb
theorem RdS.drewN (h : RdS w A n ss) (k : Nat) : RdS (w.drewN k) A n ss := h
theorem RdS.of_own {base : Nat} {e : TypeId} {c : Nat} (h : w.ownsRow base e 1 (.slice A n c) n (ss.map Value.string)) : RdS w A n ss := Rd.of_own h
end
theorem str_inj {a b : ByteArray} (h : a.toList = b.toList) : a = b := by
  rw [mkS_eq h, ← mkS_eq (s := b) rfl]
theorem str_eqb {a b : ByteArray} (h : a = b) : (a.toList == b.toList) = true := by rw [h]; simp
theorem str_neb {a b : ByteArray} (h : ¬ a = b) : (a.toList == b.toList) = false := by
  rw [beq_eq_false_iff_ne]
  exact fun e => h (str_inj e)

theorem slice_one (W : World) (s : ByteArray) (k : Nat) (h : k < s.size) : (Instr.slice 9 (.string s) (some (.int .i64 (k : Int))) (some (.int .i64 ((k : Int) + 1))) none).run Try.prog W = .ok (.string (s.extract k (k + 1))) W := by
  rw [run_slice_string W 9 s .i64 .i64 (k : Int) ((k : Int) + 1) Try.underlying9 (by omega) (by omega) (by omega)]
  rfl
set_option maxHeartbeats 1000000 in
theorem eqStringS_any (A A' : Option Addr) (n n' c c' : Nat) (xs ys : List ByteArray) (w : World) (hx : RdS w A n xs) (hy : RdS w A' n' ys) (hn : n ≤ 1099511627776) :
    Calls Try.prog 40 #[.slice A n c, .slice A' n' c'] w fun e w' => e = .returned (.bool (decide (xs = ys))) ∧ ∃ m, w' = w.drewN m := by
  have HX := Lib.hid hx
  have HY := Lib.hid hy
  have Hlx := Lib.hid hx.len
  have Hly := Lib.hid hy.len
  clear hx hy
  by_cases hnn : n = n'
  · subst hnn
    go_enter Try.func40, Try.ntmps40
    go_wp2
    go_loopw [5] (fun i wr => ∃ k : Nat, k ≤ n ∧ i = .int .i64 k ∧ Hid (xs.take k = ys.take k) ∧ ∃ m, wr = w.drewN m) (fun i _ => n - (intOf i).toNat)
    case atStart => exact ⟨0, Nat.zero_le _, rfl, by simp [Hid], 0, rfl⟩
    case round =>
      obtain ⟨k, hk, rfl, Hk, m, rfl⟩ := hrel
      by_cases hlt : k < n
      · obtain ⟨b, off, x, rfl, hxk, hcx⟩ := HX.out.at_ hlt
        obtain ⟨b', off', y, rfl, hyk, hcy⟩ := HY.out.at_ hlt
        have HXK := Lib.hid hxk
        have HYK := Lib.hid hyk
        clear hxk hyk
        by_cases hxy : x = y
        · subst hxy
          go_wp2
          go_quiet (fail)
          go_wp2
          go_roundw
          case rel => exact ⟨k + 1, by omega, by go_num, by unfold Hid; rw [take_snoc HXK.out, take_snoc HYK.out, Hk.out], by first | exact ⟨_, rfl⟩ | exact ex_drew _ _ _⟩
          case measure => simp [intOf]; omega
        · have hne : (x.toList == y.toList) = false := str_neb hxy
          have HN := Lib.hid hxy
          clear hxy
          go_wp2
          go_quiet (fail)
          go_wp2
          go_ret
          refine ⟨ret_bool ?_, by first | exact ⟨_, rfl⟩ | exact ex_drew _ _ _⟩
          symm
          refine decide_eq_false ?_
          intro e
          have h1 := HXK.out
          rw [e, HYK.out] at h1
          exact HN.out (Option.some.inj h1).symm
      · go_wp2
        go_ret
        refine ⟨ret_bool ?_, _, rfl⟩
        symm
        refine decide_eq_true ?_
        have h1 := Hk.out
        rwa [List.take_of_length_le (by have := Hlx.out; omega), List.take_of_length_le (by have := Hly.out; omega)] at h1
  · have hne : ((n : Int) != (n' : Int)) = true := by simp; omega
    go_enter Try.func40, Try.ntmps40
    go_wp2
    go_ret
    refine ⟨ret_bool ?_, 0, rfl⟩
    symm
    refine decide_eq_false ?_
    rintro rfl
    exact hnn (Hlx.out.symm.trans Hly.out)
/-- Whether a list has a text. -/
def hasB (ss : List ByteArray) (t : ByteArray) : Bool := decide (t.toList ∈ ss.map ByteArray.toList)
theorem hasB_iff {ss : List ByteArray} {t : ByteArray} : t.toList ∈ ss.map ByteArray.toList ↔ t ∈ ss := by
  rw [List.mem_map]
  constructor
  · rintro ⟨x, hx, e⟩; rw [← str_inj e]; exact hx
  · intro h; exact ⟨t, h, rfl⟩
theorem hasB_yes {ss : List ByteArray} {t : ByteArray} (h : t ∈ ss) : hasB ss t = true := decide_eq_true (hasB_iff.2 h)
theorem hasB_no {ss : List ByteArray} {t : ByteArray} (h : ¬ t ∈ ss) : hasB ss t = false := decide_eq_false (fun h' => h (hasB_iff.1 h'))
set_option maxHeartbeats 1000000 in
theorem hasText_any (A : Option Addr) (n c : Nat) (ss : List ByteArray) (t : ByteArray) (w : World) (hx : RdS w A n ss) (hn : n ≤ 1099511627776) :
    Calls Try.prog 59 #[.slice A n c, .string t] w fun e w' => e = .returned (.bool (hasB ss t)) ∧ w = w' := by
  have HX := Lib.hid hx
  have Hlx := Lib.hid hx.len
  clear hx
  go_enter Try.func59, Try.ntmps59
  go_wp2_with fail
  go_loop [9] (fun i => ∃ k : Nat, k ≤ n ∧ i = .int .i64 k ∧ Hid (¬ t ∈ ss.take k)) (fun i => n - (intOf i).toNat)
  case atStart => exact ⟨0, Nat.zero_le _, rfl, by simp [Hid]⟩
  case round =>
    obtain ⟨k, hk, rfl, Hk⟩ := hrel
    by_cases hlt : k < n
    · obtain ⟨b, off, x, rfl, hxk, hcx⟩ := HX.out.at_ hlt
      have HXK := Lib.hid hxk
      clear hxk
      by_cases hxt : x = t
      · have hb := str_eqb hxt
        have HB : Hid (hasB ss t = true) := by
          unfold Hid
          refine hasB_yes ?_
          rw [← hxt]
          exact List.mem_of_getElem? HXK.out
        clear hxt
        go_wp2_with fail
        go_ret
        exact ⟨ret_bool HB.out.symm, rfl⟩
      · have hb := str_neb hxt
        have HN : Hid (¬ t ∈ ss.take (k + 1)) := by
          unfold Hid
          rw [take_snoc HXK.out, List.mem_append]
          rintro (h | h)
          · exact Hk.out h
          · simp at h; exact hxt h.symm
        clear hxt
        go_wp2_with fail
        go_round
        case rel => exact ⟨k + 1, by omega, by go_num, HN⟩
        case measure => simp [intOf]; omega
    · have HB : Hid (hasB ss t = false) := by
        unfold Hid
        refine hasB_no ?_
        have h1 := Hk.out
        rwa [List.take_of_length_le (by have := Hlx.out; omega)] at h1
      go_wp2_with fail
      go_ret
      exact ⟨ret_bool HB.out.symm, rfl⟩
set_option maxHeartbeats 1000000 in
theorem l3Has_any (A : Option Addr) (n c : Nat) (ss : List ByteArray) (t : ByteArray) (w : World) (hx : RdS w A n ss) (hn : n ≤ 1099511627776) :
    Calls Try.prog 58 #[.slice A n c, .string t] w fun e w' => e = .returned (.bool (hasB ss t)) ∧ w = w' := by
  have HX := Lib.hid hx
  have Hlx := Lib.hid hx.len
  clear hx
  go_enter Try.func58, Try.ntmps58
  go_wp2_with fail
  go_loop [5] (fun i => ∃ k : Nat, k ≤ n ∧ i = .int .i64 k ∧ Hid (¬ t ∈ ss.take k)) (fun i => n - (intOf i).toNat)
  case atStart => exact ⟨0, Nat.zero_le _, rfl, by simp [Hid]⟩
  case round =>
    obtain ⟨k, hk, rfl, Hk⟩ := hrel
    by_cases hlt : k < n
    · obtain ⟨b, off, x, rfl, hxk, hcx⟩ := HX.out.at_ hlt
      have HXK := Lib.hid hxk
      clear hxk
      by_cases hxt : x = t
      · have hb := str_eqb hxt
        have HB : Hid (hasB ss t = true) := by
          unfold Hid
          refine hasB_yes ?_
          rw [← hxt]
          exact List.mem_of_getElem? HXK.out
        clear hxt
        go_wp2_with fail
        go_ret
        exact ⟨ret_bool HB.out.symm, rfl⟩
      · have hb := str_neb hxt
        have HN : Hid (¬ t ∈ ss.take (k + 1)) := by
          unfold Hid
          rw [take_snoc HXK.out, List.mem_append]
          rintro (h | h)
          · exact Hk.out h
          · simp at h; exact hxt h.symm
        clear hxt
        go_wp2_with fail
        go_round
        case rel => exact ⟨k + 1, by omega, by go_num, HN⟩
        case measure => simp [intOf]; omega
    · have HB : Hid (hasB ss t = false) := by
        unfold Hid
        refine hasB_no ?_
        have h1 := Hk.out
        rwa [List.take_of_length_le (by have := Hlx.out; omega)] at h1
      go_wp2_with fail
      go_ret
      exact ⟨ret_bool HB.out.symm, rfl⟩
/-- The decimal digits of a number, none of 0. -/
def digs (k : Nat) : List UInt8 := if h : k = 0 then [] else digs (k / 10) ++ [UInt8.ofNat (48 + k % 10)]
theorem digs_zero : digs 0 = [] := by unfold digs; rfl
theorem digs_pos {k : Nat} (h : 0 < k) : digs k = digs (k / 10) ++ [UInt8.ofNat (48 + k % 10)] := by
  rw [digs, dif_neg (by omega)]
theorem digs_len : ∀ (k : Nat), (digs k).length ≤ k := by
  intro k
  induction k using Nat.strongRecOn with
  | ind k ih =>
    by_cases h : k = 0
    · subst h; rw [digs_zero]; simp
    · rw [digs_pos (by omega), List.length_append]
      have := ih (k / 10) (by omega)
      simp
      omega
/-- What markText returns at a number above 0. -/
def mtxt (k : Nat) : ByteArray := mkS (109 :: digs k)
set_option maxRecDepth 100000 in
set_option maxHeartbeats 2000000 in
theorem markText_any (q : Nat) (w : World) (h0 : 0 < q) (hq : q ≤ 4398046511104) :
    Calls Try.prog 60 #[.int .i64 q] w fun e w' => e = .returned (.string (mtxt q)) ∧ Below w.heap.size w w' := by
  go_enter Try.func60, Try.ntmps60
  go_wp2_with fail
  go_loopw [0, 3] (fun kv ov wr => ∃ (k : Nat) (O : ByteArray), kv = .int .i64 k ∧ ov = .string O ∧ k ≤ q ∧ O.size ≤ q ∧ Hid (digs k ++ O.toList = digs q) ∧ Hid (Below w.heap.size w wr)) (fun kv _ _ => (intOf kv).toNat)
  case atStart => exact ⟨q, ⟨#[]⟩, rfl, rfl, Nat.le_refl _, by simp [ByteArray.size], by unfold Hid; rw [show (ByteArray.mk #[]).toList = [] from by rw [ByteArray.toList_eq]]; simp, Below.refl _ _⟩
  case round =>
    obtain ⟨k, O, rfl, rfl, hk, hO, HD, Hb⟩ := hrel
    have hszw : w.heap.size ≤ wr.heap.size := Hb.out.size
    by_cases h1 : 0 < k
    · have hcv : (convert 61 9 (.slice (some ⟨wr.heap.size, 0, none⟩) 1 1)).run Try.prog (wr.alloc (.cells #[.int .u8 (48 + (k : Int) % 10)] 5)) = .ok (.string (bstr [48 + (k : Int) % 10])) (wr.alloc (.cells #[.int .u8 (48 + (k : Int) % 10)] 5)) :=
        run_bytes_string _ _ _ 5 Try.underlying61 Try.underlying5 Try.underlying9 [48 + (k : Int) % 10] (World.ownsRow_lit wr #[.int .u8 (48 + (k : Int) % 10)] 1 (Nat.le_refl _) (by unfold maxLen; omega) rfl)
      obtain ⟨X, hadd, hX⟩ : ∃ X : ByteArray, (∀ W : World, (Op.stringOp .add (bstr [48 + (k : Int) % 10]) O).run Try.prog W = .ok (.string X) W) ∧ X.toList = [UInt8.ofNat (48 + k % 10)] ++ O.toList := by
        refine ⟨_, fun W => run_string_add_sum W _ _ (by rw [bstr_size]; simp; omega), ?_⟩
        rw [append_toList]
        congr 1
        have e : (48 + (k : Int) % 10).toNat = 48 + k % 10 := by omega
        rw [ByteArray.toList_eq]
        unfold bstr
        simp only [List.map_cons, List.map_nil, e]
      have HD2 : Hid (digs (k / 10) ++ X.toList = digs q) := by
        unfold Hid
        rw [hX, ← List.append_assoc, ← digs_pos h1]
        exact HD.out
      have HXz : Hid (X.size ≤ q) := by
        unfold Hid
        have h2 := congrArg List.length HD2.out
        have h3 := digs_len q
        rw [List.length_append, str_len'] at h2
        omega
      have Hb2 : Hid (Below w.heap.size w (wr.alloc (.cells #[.int .u8 (48 + (k : Int) % 10)] 5))) := Hb.out.alloc hszw _
      clear hX
      go_wp2_with fail
      go_roundw
      case rel => exact ⟨k / 10, X, by go_num, rfl, by omega, HXz.out, HD2, Hb2.out⟩
      case measure => simp [intOf]; omega
    · have HE : Hid (O.toList = digs q) := by
        unfold Hid
        have h2 := HD.out
        rw [show k = 0 by omega, digs_zero] at h2
        simpa using h2
      have hadd : ∀ W : World, (Op.stringOp .add ⟨#[109]⟩ O).run Try.prog W = .ok (.string (mtxt q)) W := by
        intro W
        rw [run_string_add_sum W _ _ (by show 1 + O.size ≤ _; omega)]
        rw [mkS_eq (s := ⟨#[109]⟩ ++ O) (l := 109 :: digs q) (by rw [append_toList, HE.out, ByteArray.toList_eq]; rfl)]
        rfl
      go_wp2_with fail
      go_ret
      exact ⟨rfl, Hb.out⟩
/-- mtxt k, mtxt (k + 1), .. : n texts. -/
def marks (k n : Nat) : List ByteArray := (List.range n).map fun i => mtxt (k + i)
theorem marks_len (k n : Nat) : (marks k n).length = n := by simp [marks]
theorem marks_at (k n j : Nat) (h : j < n) : (marks k n)[j]? = some (mtxt (k + j)) := by simp [marks, h]
theorem marks_set (k n j : Nat) (zs : List ByteArray) (hz : zs.length = n) (hj : j < n) : ((marks k j) ++ zs.drop j).set j (mtxt (k + j)) = marks k (j + 1) ++ zs.drop (j + 1) := by
  rw [List.set_append_right _ _ (by rw [marks_len]; exact Nat.le_refl _), marks_len, Nat.sub_self]
  have e : zs.drop j = zs[j]'(by omega) :: zs.drop (j + 1) := List.drop_eq_getElem_cons (by omega)
  rw [e, List.set_cons_zero]
  unfold marks
  rw [List.range_succ, List.map_append]
  simp
set_option maxRecDepth 100000 in
set_option maxHeartbeats 2000000 in
theorem markStringS_any (A : Option Addr) (n c : Nat) (zs : List ByteArray) (q : Nat) (base : Nat) (w : World) (hx : w.ownsRow base 9 1 (.slice A n c) n (zs.map Value.string)) (hn : n ≤ 1048576) (hq : 0 < q) (hq2 : q ≤ 1048576) :
    Calls Try.prog 41 #[.slice A n c, .int .i64 q] w fun e w' => e = .returned (.int .i64 (q + n)) ∧
      w'.ownsRow base 9 1 (.slice A n c) n ((marks q n).map Value.string) ∧ w.grownBy w' (Value.slice A n c).ownBlock := by
  have Hlx : Hid (zs.length = n) := by unfold Hid; simpa using hx.1
  have HX := Lib.hid hx
  clear hx
  go_enter Try.func41, Try.ntmps41
  go_wp2_with fail
  go_loopw [1, 5] (fun v i wr => ∃ k : Nat, k ≤ n ∧ i = .int .i64 k ∧ v = .int .i64 (q + k) ∧ Hid (wr.ownsRow base 9 1 (.slice A n c) n ((marks q k ++ zs.drop k).map Value.string)) ∧ Hid (w.grownBy wr (Value.slice A n c).ownBlock)) (fun _ i _ => n - (intOf i).toNat)
  case atStart => exact ⟨0, Nat.zero_le _, rfl, by simp, by simpa [Hid, marks] using HX.out, World.grownBy.refl _ _⟩
  case round =>
    obtain ⟨k, hk, rfl, rfl, Ho, Hb⟩ := hrel
    by_cases hlt : k < n
    · have hform : ∃ g, A = some ⟨g, 0, none⟩ := by
        rcases Ho.out.2 with ⟨h', h0⟩ | ⟨g, cap, cur, h', _⟩
        · omega
        · simp only [Value.slice.injEq] at h'
          exact ⟨g, h'.1⟩
      obtain ⟨g, rfl⟩ := hform
      have hqk : ((q + k : Nat) : Int) = (q : Int) + (k : Int) := by omega
      have HC := markText_any (q + k) wr (by omega) (by omega)
      rw [hqk] at HC
      have HCC := Lib.hid HC
      clear HC hqk
      go_wp2_with fail
      refine HCC.out.mono ?_
      rintro e w2 ⟨rfl, hb2⟩
      have HO2 := Lib.hid (own_belowAll Ho.out hb2)
      have HG2 : Hid (wr.grownBy w2 none) := ⟨hb2.os, hb2.tape, hb2.output, hb2.size, fun i hi _ => hb2.block i hi⟩
      clear hb2 HCC
      have hst : ∃ u, w2.cell? ⟨g, k, none⟩ = some u := by
        rw [HO2.out.cellAt k (by omega)]
        exact ⟨_, List.getElem?_eq_getElem (by have := Hlx.out; simp [marks_len]; omega)⟩
      obtain ⟨u, hst⟩ := hst
      have hfz : w2.frozen? ⟨g, k, none⟩ = false := HO2.out.frozenAt k
      go_wp2_with fail
      go_roundw
      case rel =>
        refine ⟨k + 1, by omega, by go_num, by go_num, ?_, ?_⟩
        · have := (HO2.out.stored k (.string (mtxt (q + k)))).1
          rw [← List.map_set, marks_set q n k zs Hlx.out hlt] at this
          exact this
        · have h1 := (HO2.out.stored k (.string (mtxt (q + k)))).2
          have h2 := HG2.out
          have hg := Hb.out
          exact ⟨h1.os.trans (h2.os.trans hg.os), h1.tape.trans (h2.tape.trans hg.tape), h1.output.trans (h2.output.trans hg.output), Nat.le_trans hg.size (Nat.le_trans h2.size h1.size), fun i hi hne => (h1.block i (Nat.lt_of_lt_of_le hi (Nat.le_trans hg.size h2.size)) hne).trans ((h2.block i (Nat.lt_of_lt_of_le hi hg.size) (by simp)).trans (hg.block i hi hne))⟩
      case measure => simp [intOf]; omega
    · have hkn : k = n := by omega
      subst hkn
      go_wp2_with fail
      go_ret
      refine ⟨rfl, ?_, Hb.out⟩
      have := Ho.out
      rw [List.drop_of_length_le (by have := Hlx.out; omega), List.append_nil] at this
      exact this
set_option maxRecDepth 100000 in
set_option maxHeartbeats 2000000 in
theorem heldStringS_any (A : Option Addr) (n c : Nat) (q : Nat) (w : World) (hx : RdS w A n (marks q n)) (hn : n ≤ 1048576) (hq : 0 < q) (hq2 : q ≤ 1048576) :
    Calls Try.prog 42 #[.slice A n c, .int .i64 q] w fun e w' => e = .returned (.int .i64 (q + n)) ∧ Below w.heap.size w w' := by
  have HX := Lib.hid hx
  clear hx
  go_enter Try.func42, Try.ntmps42
  go_wp2_with fail
  go_loopw [1, 5] (fun v i wr => ∃ k : Nat, k ≤ n ∧ i = .int .i64 k ∧ v = .int .i64 (q + k) ∧ Hid (Below w.heap.size w wr)) (fun _ i _ => n - (intOf i).toNat)
  case atStart => exact ⟨0, Nat.zero_le _, rfl, by simp, Below.refl _ _⟩
  case round =>
    obtain ⟨k, hk, rfl, rfl, Hb⟩ := hrel
    by_cases hlt : k < n
    · obtain ⟨b, off, z, rfl, hzk, hcz0⟩ := HX.out.at_ hlt
      rw [marks_at q n k hlt] at hzk
      have hz := (Option.some.inj hzk).symm
      subst hz
      clear hzk
      have hcz : wr.cell? ⟨b, off + k, none⟩ = some (.string (mtxt (q + k))) := (Hb.out.cell (block_lt_of_cell hcz0)).trans hcz0
      have HCZ := Lib.hid hcz
      have hqk : ((q + k : Nat) : Int) = (q : Int) + (k : Int) := by omega
      have HC : ∀ W : World, Calls Try.prog 60 #[.int .i64 ((q : Int) + (k : Int))] W fun e w' => e = .returned (.string (mtxt (q + k))) ∧ Below W.heap.size W w' := fun W => by rw [← hqk]; exact markText_any (q + k) W (by omega) (by omega)
      have HCC := Lib.hid HC
      obtain ⟨M, hM⟩ : ∃ M, M = mtxt (q + k) := ⟨_, rfl⟩
      have k0 : (0 : Int) ≤ k := by omega
      have k1 : (k : Int) < n := by omega
      clear HC hqk hcz0
      go_wp2_with fail
      go_region_with (first | (go_at_call 60; refine (HCC.out _).mono ?_; rintro e w2 ⟨rfl, hb2⟩; have hcy := (hb2.cell (block_lt_of_cell HCZ.out)).trans HCZ.out; have Hb3 : Hid (Below w.heap.size w w2) := below_seq (w1 := wr.drew) Hb.out.drew hb2; clear hb2))
      all_goals go_wp2_with fail
      all_goals go_round
      all_goals first
        | (simp [intOf]; omega)
        | exact ⟨k + 1, by omega, by go_num, by go_num, Hb3.out⟩
    · have hkn : k = n := by omega
      subst hkn
      go_wp2_with fail
      go_ret
      exact ⟨rfl, Hb.out⟩
end Go.Proofs.Ytagboepkmedggaa
