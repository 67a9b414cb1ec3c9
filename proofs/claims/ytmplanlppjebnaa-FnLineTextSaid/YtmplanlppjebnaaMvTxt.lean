/-
  Words on texts as lists of bytes; contract of markText.
  Conditions: the number is above 0 and at most 2^42.
-/
import Derived.Test.YtmplanlppjebnaaProg
import Derived.Test.YtmplanlppjebnaaKit
import Derived.Test.YtmplanlppjebnaaInts
import Derived.Handy
import Derived.Deep.RegionWith
import Derived.Deep.DrawnRows
import Derived.IntWalk
namespace Go.Proofs.Ytmplanlppjebnaa
open Go.RowKit
set_option linter.unusedVariables false
attribute [local go_sem ↓] Go.wp_at_zero Go.wp_at_succ

theorem str_at' (s : ByteArray) (k : Nat) (h : k < s.size) : s.toList[k]? = some s[k] := by
  rw [ByteArray.toList_eq, List.getElem?_eq_getElem (by simpa using h)]
  simp [ByteArray.getElem_eq_getElem_data]
theorem str_len' (s : ByteArray) : s.toList.length = s.size := by rw [ByteArray.toList_eq]; simp
/-- A list of bytes as a string. -/
def mkS (l : List UInt8) : ByteArray := ⟨l.toArray⟩
theorem mkS_toList (l : List UInt8) : (mkS l).toList = l := by rw [ByteArray.toList_eq]; simp [mkS]
theorem mkS_size (l : List UInt8) : (mkS l).size = l.length := by simp [mkS, ByteArray.size]
theorem mkS_eq {s : ByteArray} {l : List UInt8} (h : s.toList = l) : s = mkS l := by
  rw [ByteArray.toList_eq] at h
  unfold mkS
  rw [← h]
theorem extract_one (s : ByteArray) (k : Nat) (h : k < s.size) : (s.extract k (k + 1)).toList = [s[k]] := by
  rw [ByteArray.toList_eq]
  have : (s.extract k (k + 1)).data = #[s[k]] := by
    rw [ByteArray.data_extract]
    apply Array.ext
    · simp; have : k < s.data.size := h; omega
    · intro i h1 h2
      simp at h2
      subst h2
      simp
      rfl
  rw [this]
theorem append_toList (a b : ByteArray) : (a ++ b).toList = a.toList ++ b.toList := by
  rw [ByteArray.toList_eq, ByteArray.toList_eq, ByteArray.toList_eq, ByteArray.data_append, Array.toList_append]
/-- The decimal digits of a number, none of 0. -/
def digs (k : Nat) : List UInt8 := if h : k = 0 then [] else digs (k / 10) ++ [UInt8.ofNat (48 + k % 10)]
theorem digs_zero : digs 0 = [] := by unfold digs; rfl
theorem digs_pos {k : Nat} (h : 0 < k) : digs k = digs (k / 10) ++ [UInt8.ofNat (48 + k % 10)] := by
  rw [digs, dif_neg (by omega)]
theorem digs_len : ∀ (k : Nat), (digs k).length ≤ k := by
  intro k
  induction k using Nat.strongRecOn with
  | ind k ih =>
    by_cases h : k = 0
    · subst h; rw [digs_zero]; simp
    · rw [digs_pos (by omega), List.length_append]
      have := ih (k / 10) (by omega)
      simp
      omega
/-- What markText returns at a number above 0. -/
def mtxt (k : Nat) : ByteArray := mkS (109 :: digs k)
set_option maxRecDepth 100000 in
set_option maxHeartbeats 2000000 in
theorem markText_any (q : Nat) (w : World) (h0 : 0 < q) (hq : q ≤ 4398046511104) :
    Calls Try.prog 44 #[.int .i64 q] w fun e w' => e = .returned (.string (mtxt q)) ∧ Below w.heap.size w w' := by
  go_enter Try.func44, Try.ntmps44
  go_wp2_with fail
  go_loopw [0, 3] (fun kv ov wr => ∃ (k : Nat) (O : ByteArray), kv = .int .i64 k ∧ ov = .string O ∧ k ≤ q ∧ O.size ≤ q ∧ Hid (digs k ++ O.toList = digs q) ∧ Hid (Below w.heap.size w wr)) (fun kv _ _ => (intOf kv).toNat)
  case atStart => exact ⟨q, ⟨#[]⟩, rfl, rfl, Nat.le_refl _, by simp [ByteArray.size], by unfold Hid; rw [show (ByteArray.mk #[]).toList = [] from by rw [ByteArray.toList_eq]]; simp, Below.refl _ _⟩
  case round =>
    obtain ⟨k, O, rfl, rfl, hk, hO, HD, Hb⟩ := hrel
    have hszw : w.heap.size ≤ wr.heap.size := Hb.out.size
    by_cases h1 : 0 < k
    · have hcv : (convert 22 9 (.slice (some ⟨wr.heap.size, 0, none⟩) 1 1)).run Try.prog (wr.alloc (.cells #[.int .u8 (48 + (k : Int) % 10)] 5)) = .ok (.string (bstr [48 + (k : Int) % 10])) (wr.alloc (.cells #[.int .u8 (48 + (k : Int) % 10)] 5)) :=
        run_bytes_string _ _ _ 5 Try.underlying22 Try.underlying5 Try.underlying9 [48 + (k : Int) % 10] (World.ownsRow_lit wr #[.int .u8 (48 + (k : Int) % 10)] 1 (Nat.le_refl _) (by unfold maxLen; omega) rfl)
      obtain ⟨X, hadd, hX⟩ : ∃ X : ByteArray, (∀ W : World, (Op.stringOp .add (bstr [48 + (k : Int) % 10]) O).run Try.prog W = .ok (.string X) W) ∧ X.toList = [UInt8.ofNat (48 + k % 10)] ++ O.toList := by
        refine ⟨_, fun W => run_string_add_sum W _ _ (by rw [bstr_size]; simp; omega), ?_⟩
        rw [append_toList]
        congr 1
        have e : (48 + (k : Int) % 10).toNat = 48 + k % 10 := by omega
        rw [ByteArray.toList_eq]
        unfold bstr
        simp only [List.map_cons, List.map_nil, e]
      have HD2 : Hid (digs (k / 10) ++ X.toList = digs q) := by
        unfold Hid
        rw [hX, ← List.append_assoc, ← digs_pos h1]
        exact HD.out
      have HXz : Hid (X.size ≤ q) := by
        unfold Hid
        have h2 := congrArg List.length HD2.out
        have h3 := digs_len q
        rw [List.length_append, str_len'] at h2
        omega
      have Hb2 : Hid (Below w.heap.size w (wr.alloc (.cells #[.int .u8 (48 + (k : Int) % 10)] 5))) := Hb.out.alloc hszw _
      clear hX
      go_wp2_with fail
      go_roundw
      case rel => exact ⟨k / 10, X, by go_num, rfl, by omega, HXz.out, HD2, Hb2.out⟩
      case measure => simp [intOf]; omega
    · have HE : Hid (O.toList = digs q) := by
        unfold Hid
        have h2 := HD.out
        rw [show k = 0 by omega, digs_zero] at h2
        simpa using h2
      have hadd : ∀ W : World, (Op.stringOp .add ⟨#[109]⟩ O).run Try.prog W = .ok (.string (mtxt q)) W := by
        intro W
        rw [run_string_add_sum W _ _ (by show 1 + O.size ≤ _; omega)]
        rw [mkS_eq (s := ⟨#[109]⟩ ++ O) (l := 109 :: digs q) (by rw [append_toList, HE.out, ByteArray.toList_eq]; rfl)]
        rfl
      go_wp2_with fail
      go_ret
      exact ⟨rfl, Hb.out⟩
theorem str_inj {a b : ByteArray} (h : a.toList = b.toList) : a = b := by
  rw [mkS_eq h, ← mkS_eq (s := b) rfl]
theorem str_eqb {a b : ByteArray} (h : a = b) : (a.toList == b.toList) = true := by rw [h]; simp
theorem str_neb {a b : ByteArray} (h : ¬ a = b) : (a.toList == b.toList) = false := by
  rw [beq_eq_false_iff_ne]
  exact fun e => h (str_inj e)

end Go.Proofs.Ytmplanlppjebnaa
