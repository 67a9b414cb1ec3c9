/-
  Contracts: HasPrefix, stands, begins, CodeBegins, CodeBack (the program's); CodeBegins, CodeBack (the reference's).
  Conditions: the slices read as lists of integers, of at most 2^40 elements.
-/
import Derived.Test.YtpfgjkgjeejghaaCodes3
namespace Go.Proofs.Ytpfgjkgjeejghaa
open Go.RowKit
set_option linter.unusedVariables false

namespace Cd
/-- Whether the text p stands at the beginning of s. -/
def pre (p s : ByteArray) : Bool := decide (p.size ≤ s.size) && ((s.extract 0 p.size).toList == p.toList)
theorem bstr_list (zs : List Int) : (bstr zs).toList = zs.map fun n => UInt8.ofNat n.toNat := by
  rw [ByteArray.toList_eq]; simp [bstr]
theorem map_inj {a b : List Int} (ha : grp a) (hb : grp b) (h : (a.map fun n => UInt8.ofNat n.toNat) = b.map fun n => UInt8.ofNat n.toNat) : a = b := by
  have := congrArg (fun l : List UInt8 => l.map fun b => (b.toNat : Int)) h
  rw [bytes_back ha, bytes_back hb] at this
  exact this
theorem grp_take {a : List Int} (h : grp a) (k : Nat) : grp (a.take k) := fun z hz => h z (List.mem_of_mem_take hz)
theorem extract_list (s : ByteArray) (n : Nat) : (s.extract 0 n).toList = s.toList.take n := by
  rw [ByteArray.toList_eq, ByteArray.toList_eq, ByteArray.data_extract]
  simp
theorem pre_bstr {a b : List Int} (ha : grp a) (hb : grp b) : pre (bstr a) (bstr b) = (decide (a.length ≤ b.length) && decide (a = b.take a.length)) := by
  unfold pre
  rw [bstr_size, bstr_size, extract_list, bstr_list, bstr_list, ← List.map_take]
  congr 1
  rw [Bool.eq_iff_iff]
  simp only [beq_iff_eq, decide_eq_true_eq]
  constructor
  · intro h; exact (map_inj (grp_take hb _) ha h).symm
  · intro h; rw [← h]
/-- What CodeBegins returns. -/
def begins (a b : List Int) : Bool := validB a && (validB b && (decide (a.length < b.length) && decide (a = b.take a.length)))
end Cd

set_option maxHeartbeats 1000000 in
theorem hasPrefixLite_any (s p : ByteArray) (w : World) (hs : s.size ≤ 1099511627776) :
    Calls Try.prog 76 #[.string s, .string p] w fun e w' => e = .returned (.bool (Cd.pre p s)) ∧ w = w' := by
  by_cases h : p.size ≤ s.size
  · have HE : Hid (Cd.pre p s = ((s.extract 0 p.size).toList == p.toList)) := by unfold Hid Cd.pre; simp [h]
    go_enter Try.func76, Try.ntmps76
    go_wp2_with fail
    go_ret
    exact ⟨ret_bool HE.out.symm, rfl⟩
  · have HE : Hid (Cd.pre p s = false) := by unfold Hid Cd.pre; simp [h]
    have h' : s.size < p.size := by omega
    have hd : decide (p.size ≤ s.size) = false := by simp; omega
    clear h
    go_enter Try.func76, Try.ntmps76
    go_wp2_with fail
    go_ret
    exact ⟨ret_bool HE.out.symm, rfl⟩
theorem hasPrefix_any (s p : ByteArray) (w : World) (hs : s.size ≤ 1099511627776) :
    Calls Try.prog 73 #[.string s, .string p] w fun e w' => e = .returned (.bool (Cd.pre p s)) ∧ w = w' := by
  go_enter Try.func73, Try.ntmps73
  go_wp2_with fail
  refine (hasPrefixLite_any _ _ _ hs).mono ?_
  rintro e w' ⟨rfl, rfl⟩
  go_wp2_with fail
  go_ret
  exact ⟨rfl, rfl⟩
theorem stands_any (b o : ByteArray) (w : World) (hs : o.size ≤ 1099511627776) :
    Calls Try.prog 66 #[.string b, .string o] w fun e w' => e = .returned (.bool (Cd.pre b o)) ∧ w = w' := by
  go_enter Try.func66, Try.ntmps66
  go_wp2_with fail
  refine (hasPrefix_any _ _ _ hs).mono ?_
  rintro e w' ⟨rfl, rfl⟩
  go_wp2_with fail
  go_ret
  exact ⟨rfl, rfl⟩
set_option maxHeartbeats 1000000 in
theorem begins_any (b o : ByteArray) (w : World) (hs : o.size ≤ 1099511627776) :
    Calls Try.prog 61 #[.string b, .string o] w fun e w' => e = .returned (.bool (decide (b.size < o.size) && Cd.pre b o)) ∧ w = w' := by
  by_cases h : b.size < o.size
  · have HE : Hid ((decide (b.size < o.size) && Cd.pre b o) = Cd.pre b o) := by unfold Hid; simp [h]
    go_enter Try.func61, Try.ntmps61
    go_wp2_with fail
    refine (stands_any _ _ _ hs).mono ?_
    rintro e w' ⟨rfl, rfl⟩
    go_wp2_with fail
    go_ret
    exact ⟨ret_bool HE.out.symm, rfl⟩
  · have HE : Hid ((decide (b.size < o.size) && Cd.pre b o) = false) := by unfold Hid; simp [h]
    have hd : decide (b.size < o.size) = false := by simpa using h
    clear h
    go_enter Try.func61, Try.ntmps61
    go_wp2_with fail
    go_ret
    exact ⟨ret_bool HE.out.symm, rfl⟩
set_option maxHeartbeats 1000000 in
theorem specCodeBegins_any (A A' : Option Addr) (n c n' c' : Nat) (xs ys : List Int) (w : World) (hx : RdI w A n xs) (hy : RdI w A' n' ys) (hn : n ≤ 1099511627776) (hn' : n' ≤ 1099511627776) (hc' : n' ≤ c') (hm' : c' ≤ maxLen) :
    Calls Try.prog 60 #[.slice A n c, .slice A' n' c'] w fun e w' => e = .returned (.bool (Cd.begins xs ys)) ∧ ∃ m, w' = w.drewN m := by
  have HX := Lib.hid hx
  have HY := Lib.hid hy
  have Hlx := Lib.hid hx.len
  have Hly := Lib.hid hy.len
  clear hx hy
  unfold maxLen at hm'
  by_cases hv : Cd.validB xs = true
  · have HV := Lib.hid hv
    clear hv
    by_cases hv' : Cd.validB ys = true
    · have HV' := Lib.hid hv'
      clear hv'
      by_cases hl : n < n'
      · go_enter Try.func60, Try.ntmps60
        go_wp2_with fail
        refine (specCodeValid_any _ _ _ xs _ HX.out hn).mono ?_
        rintro e w1 ⟨rfl, rfl⟩
        rw [HV.out]
        go_wp2_with fail
        refine (specCodeValid_any _ _ _ ys _ HY.out hn').mono ?_
        rintro e w1 ⟨rfl, rfl⟩
        rw [HV'.out]
        go_wp2_with fail
        refine (l1Same_any _ _ _ _ _ _ xs (ys.take n) _ HX.out (HY.out.take (by omega)) hn).mono ?_
        rintro e w1 ⟨rfl, m, rfl⟩
        have HE : Hid (decide (xs = ys.take n) = Cd.begins xs ys) := by
          unfold Hid Cd.begins
          rw [HV.out, HV'.out, Hlx.out, Hly.out]
          simp [hl]
        rw [HE.out]
        go_wp2_with fail
        go_ret
        exact ⟨rfl, m, rfl⟩
      · have hd : decide (n < n') = false := by simpa using hl
        have hl' : n' ≤ n := by omega
        clear hl
        go_enter Try.func60, Try.ntmps60
        go_wp2_with fail
        refine (specCodeValid_any _ _ _ xs _ HX.out hn).mono ?_
        rintro e w1 ⟨rfl, rfl⟩
        rw [HV.out]
        go_wp2_with fail
        refine (specCodeValid_any _ _ _ ys _ HY.out hn').mono ?_
        rintro e w1 ⟨rfl, rfl⟩
        rw [HV'.out]
        go_wp2_with fail
        go_ret
        exact ⟨ret_bool (by unfold Cd.begins; rw [HV.out, HV'.out, Hlx.out, Hly.out]; simp; omega), 0, rfl⟩
    · have HV' : Hid (Cd.validB ys = false) := by unfold Hid; simpa using hv'
      clear hv'
      go_enter Try.func60, Try.ntmps60
      go_wp2_with fail
      refine (specCodeValid_any _ _ _ xs _ HX.out hn).mono ?_
      rintro e w1 ⟨rfl, rfl⟩
      rw [HV.out]
      go_wp2_with fail
      refine (specCodeValid_any _ _ _ ys _ HY.out hn').mono ?_
      rintro e w1 ⟨rfl, rfl⟩
      rw [HV'.out]
      go_wp2_with fail
      go_ret
      exact ⟨ret_bool (by unfold Cd.begins; rw [HV'.out]; simp), 0, rfl⟩
  · have HV : Hid (Cd.validB xs = false) := by unfold Hid; simpa using hv
    clear hv
    go_enter Try.func60, Try.ntmps60
    go_wp2_with fail
    refine (specCodeValid_any _ _ _ xs _ HX.out hn).mono ?_
    rintro e w1 ⟨rfl, rfl⟩
    rw [HV.out]
    go_wp2_with fail
    go_ret
    exact ⟨ret_bool (by unfold Cd.begins; rw [HV.out]; simp), 0, rfl⟩
end Go.Proofs.Ytpfgjkgjeejghaa
