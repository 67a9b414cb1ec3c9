/-
  Contracts of the laws' helpers over []int: toIntS copies a slice of integers; eqIntS and sameInts compare two; markIntS writes numbers into a slice of the call's own, heldIntS looks whether they are still there.
  Conditions: the slices read as lists of integers, of at most 2^40 elements.
-/
import Derived.Test.YtmplanlppjebnaaProg
import Derived.Test.YtmplanlppjebnaaKit
namespace Go.Proofs.Ytmplanlppjebnaa
open Go.RowKit
set_option linter.unusedVariables false

theorem Try.infoInt : (Try.prog.info? 3).map (fun i => (i.zero, i.size, i.bytes)) = some (some (.int .i64 0), 1, 8) := by kernel_rfl

set_option maxHeartbeats 1000000 in
theorem eqIntS_any (A A' : Option Addr) (n n' c c' : Nat) (xs ys : List Int) (w : World) (hx : RdI w A n xs) (hy : RdI w A' n' ys) (hn : n ≤ 1099511627776) :
    Calls Try.prog 39 #[.slice A n c, .slice A' n' c'] w fun e w' => e = .returned (.bool (decide (xs = ys))) ∧ ∃ m, w' = w.drewN m := by
  have HX := Lib.hid hx
  have HY := Lib.hid hy
  have Hlx := Lib.hid hx.len
  have Hly := Lib.hid hy.len
  clear hx hy
  by_cases hnn : n = n'
  · subst hnn
    go_enter Try.func39, Try.ntmps39
    go_wp2
    go_loopw [5] (fun i wr => ∃ k : Nat, k ≤ n ∧ i = .int .i64 k ∧ Hid (xs.take k = ys.take k) ∧ ∃ m, wr = w.drewN m) (fun i _ => n - (intOf i).toNat)
    case atStart => exact ⟨0, Nat.zero_le _, rfl, by simp [Hid], 0, rfl⟩
    case round =>
      obtain ⟨k, hk, rfl, Hk, m, rfl⟩ := hrel
      by_cases hlt : k < n
      · obtain ⟨b, off, x, rfl, hxk, hcx⟩ := HX.out.at_ hlt
        obtain ⟨b', off', y, rfl, hyk, hcy⟩ := HY.out.at_ hlt
        have HXK := Lib.hid hxk
        have HYK := Lib.hid hyk
        clear hxk hyk
        by_cases hxy : x = y
        · subst hxy
          go_wp2
          go_quiet (fail)
          go_wp2
          go_roundw
          case rel => exact ⟨k + 1, by omega, by go_num, by unfold Hid; rw [take_snoc HXK.out, take_snoc HYK.out, Hk.out], by first | exact ⟨_, rfl⟩ | exact ex_drew _ _ _⟩
          case measure => simp [intOf]; omega
        · have hne : (x != y) = true := by simpa using hxy
          have HN := Lib.hid hxy
          clear hxy
          go_wp2
          go_quiet (fail)
          go_wp2
          go_ret
          refine ⟨ret_bool ?_, by first | exact ⟨_, rfl⟩ | exact ex_drew _ _ _⟩
          symm
          refine decide_eq_false ?_
          intro e
          have h1 := HXK.out
          rw [e, HYK.out] at h1
          exact HN.out (Option.some.inj h1).symm
      · go_wp2
        go_ret
        refine ⟨ret_bool ?_, _, rfl⟩
        symm
        refine decide_eq_true ?_
        have h1 := Hk.out
        rwa [List.take_of_length_le (by have := Hlx.out; omega), List.take_of_length_le (by have := Hly.out; omega)] at h1
  · have hne : ((n : Int) != (n' : Int)) = true := by simp; omega
    go_enter Try.func39, Try.ntmps39
    go_wp2
    go_ret
    refine ⟨ret_bool ?_, 0, rfl⟩
    symm
    refine decide_eq_false ?_
    rintro rfl
    exact hnn (Hlx.out.symm.trans Hly.out)


/-- k, k + 1, .. : n numbers. -/
def iota (k : Int) (n : Nat) : List Int := (List.range n).map fun (i : Nat) => k + (i : Int)
theorem iota_len (k : Int) (n : Nat) : (iota k n).length = n := by simp [iota]
theorem iota_at (k : Int) (n j : Nat) (h : j < n) : (iota k n)[j]? = some (k + j) := by simp [iota, h]
theorem iota_set (k : Int) (n j : Nat) (zs : List Int) (hz : zs.length = n) (hj : j < n) : ((iota k j) ++ zs.drop j).set j (k + j) = iota k (j + 1) ++ zs.drop (j + 1) := by
  rw [List.set_append_right _ _ (by rw [iota_len]; exact Nat.le_refl _), iota_len, Nat.sub_self]
  have e : zs.drop j = zs[j]'(by omega) :: zs.drop (j + 1) := List.drop_eq_getElem_cons (by omega)
  rw [e, List.set_cons_zero]
  unfold iota
  rw [List.range_succ, List.map_append]
  simp
set_option maxHeartbeats 1000000 in
theorem markIntS_any (A : Option Addr) (n c : Nat) (zs : List Int) (q : Int) (base : Nat) (w : World) (hx : w.ownsRow base 3 1 (.slice A n c) n (zs.map (Value.int .i64))) (hn : n ≤ 1099511627776) (hq : 0 ≤ q) (hq2 : q ≤ 1099511627776) :
    Calls Try.prog 41 #[.slice A n c, .int .i64 q] w fun e w' => e = .returned (.int .i64 (q + n)) ∧
      w'.ownsRow base 3 1 (.slice A n c) n ((iota q n).map (Value.int .i64)) ∧ w.grownBy w' (Value.slice A n c).ownBlock := by
  have Hlx : Hid (zs.length = n) := by unfold Hid; simpa using hx.1
  have HX := Lib.hid hx
  clear hx
  go_enter Try.func41, Try.ntmps41
  go_wp2_with fail
  go_loopw [1, 5] (fun v i wr => ∃ k : Nat, k ≤ n ∧ i = .int .i64 k ∧ v = .int .i64 (q + k) ∧ Hid (wr.ownsRow base 3 1 (.slice A n c) n ((iota q k ++ zs.drop k).map (Value.int .i64))) ∧ Hid (w.grownBy wr (Value.slice A n c).ownBlock)) (fun _ i _ => n - (intOf i).toNat)
  case atStart => exact ⟨0, Nat.zero_le _, rfl, by simp, by simpa [Hid, iota] using HX.out, World.grownBy.refl _ _⟩
  case round =>
    obtain ⟨k, hk, rfl, rfl, Ho, Hb⟩ := hrel
    by_cases hlt : k < n
    · have hform : ∃ g, A = some ⟨g, 0, none⟩ := by
        rcases Ho.out.2 with ⟨h', h0⟩ | ⟨g, cap, cur, h', _⟩
        · omega
        · simp only [Value.slice.injEq] at h'
          exact ⟨g, h'.1⟩
      obtain ⟨g, rfl⟩ := hform
      have hst : ∃ u, wr.cell? ⟨g, k, none⟩ = some u := by
        rw [Ho.out.cellAt k (by omega)]
        exact ⟨_, List.getElem?_eq_getElem (by have := Hlx.out; simp [iota_len]; omega)⟩
      obtain ⟨u, hst⟩ := hst
      have hfz : wr.frozen? ⟨g, k, none⟩ = false := Ho.out.frozenAt k
      go_wp2_with fail
      go_roundw
      case rel =>
        refine ⟨k + 1, by omega, by go_num, by go_num, ?_, ?_⟩
        · have := (Ho.out.stored k (.int .i64 (q + k))).1
          rw [← List.map_set, iota_set q n k zs Hlx.out hlt] at this
          exact this
        · have := (Ho.out.stored k (.int .i64 (q + k))).2
          have hg := Hb.out
          exact ⟨this.os.trans hg.os, this.tape.trans hg.tape, this.output.trans hg.output, Nat.le_trans hg.size this.size, fun i hi hne => (this.block i (Nat.lt_of_lt_of_le hi hg.size) hne).trans (hg.block i hi hne)⟩
      case measure => simp [intOf]; omega
    · have hkn : k = n := by omega
      subst hkn
      go_wp2_with fail
      go_ret
      refine ⟨rfl, ?_, Hb.out⟩
      have := Ho.out
      rw [List.drop_of_length_le (by have := Hlx.out; omega), List.append_nil] at this
      exact this
set_option maxHeartbeats 1000000 in
theorem heldIntS_any (A : Option Addr) (n c : Nat) (q : Int) (w : World) (hx : RdI w A n (iota q n)) (hn : n ≤ 1099511627776) (hq : 0 ≤ q) (hq2 : q ≤ 1099511627776) :
    Calls Try.prog 43 #[.slice A n c, .int .i64 q] w fun e w' => e = .returned (.int .i64 (q + n)) ∧ w = w' := by
  have HX := Lib.hid hx
  clear hx
  go_enter Try.func43, Try.ntmps43
  go_wp2_with fail
  go_loop [1, 5] (fun v i => ∃ k : Nat, k ≤ n ∧ i = .int .i64 k ∧ v = .int .i64 (q + k)) (fun _ i => n - (intOf i).toNat)
  case atStart => exact ⟨0, Nat.zero_le _, rfl, by simp⟩
  case round =>
    obtain ⟨k, hk, rfl, rfl⟩ := hrel
    by_cases hlt : k < n
    · obtain ⟨b, off, z, rfl, hzk, hcz⟩ := HX.out.at_ hlt
      rw [iota_at q n k hlt] at hzk
      have hz := (Option.some.inj hzk).symm
      subst hz
      clear hzk
      go_wp2_with fail
      go_round
      case rel => exact ⟨k + 1, by omega, by go_num, by go_num⟩
      case measure => simp [intOf]; omega
    · have hkn : k = n := by omega
      subst hkn
      go_wp2_with fail
      go_ret
      exact ⟨rfl, rfl⟩
end Go.Proofs.Ytmplanlppjebnaa
