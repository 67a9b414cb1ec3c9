/-
  The walk of the law FnLineOrder: it returns true for every list of bytes and leaves old memory as it was.
  Conditions: none.
-/
import Derived.Test.YtmplanlppjebnaaDl8
import Derived.Test.YtmplanlppjebnaaSort8
import Derived.Test.YtmplanlppjebnaaMv2
namespace Go.Proofs.Ytmplanlppjebnaa
open Go.RowKit
set_option linter.unusedVariables false
set_option linter.unusedSimpArgs false
attribute [local go_sem ↓] Go.wp_at_zero Go.wp_at_succ

theorem ord_same {n : Nat} {xs ys zs : List Mv} (hn : xs.length = n) (h1 : So.Stab xs ys) (s1 : So.Seg ys 0 n) (h2 : So.Stab xs zs) (s2 : So.Seg zs 0 n) : zs = ys :=
  So.unique zs ys (So.seg_pairwise (by rw [h2.1, hn]; exact s2)) (So.seg_pairwise (by rw [h1.1, hn]; exact s1)) (fun k => (h2.2 k).trans (h1.2 k).symm)
theorem ltx_fk (k : Int) : ∀ xs : List Mv, ltx k xs = (So.fk k xs).flatMap fun p => p.2.toList
  | [] => rfl
  | p :: xs => by
    have ih := ltx_fk k xs
    have e1 : ltx k (p :: xs) = (if p.1 = k then p.2.toList else []) ++ ltx k xs := by simp [ltx]
    rw [e1, ih]
    by_cases h : p.1 = k
    · have e2 : So.fk k (p :: xs) = p :: So.fk k xs := by unfold So.fk; rw [List.filter_cons_of_pos (by simpa using h)]
      rw [e2, if_pos h]
      simp
    · have e2 : So.fk k (p :: xs) = So.fk k xs := by unfold So.fk; rw [List.filter_cons_of_neg (by simpa using h)]
      rw [e2, if_neg h, List.nil_append]
theorem ltx_stab {xs ys : List Mv} (h : So.Stab xs ys) (k : Int) : ltx k ys = ltx k xs := by rw [ltx_fk, ltx_fk, h.2 k]
theorem mem_stab {xs ys : List Mv} (h : So.Stab xs ys) {p : Mv} (hp : p ∈ ys) : p ∈ xs := by
  have h1 : p ∈ So.fk p.1 ys := by unfold So.fk; exact List.mem_filter.2 ⟨hp, by simp⟩
  rw [h.2 p.1] at h1
  unfold So.fk at h1
  exact (List.mem_filter.1 h1).1
theorem One.stab {xs ys : List Mv} (h : One xs) (hs : So.Stab xs ys) : One ys := fun p hp => h p (mem_stab hs hp)
theorem One.lsum : ∀ {xs : List Mv}, One xs → lsum xs = xs.length
  | [], _ => rfl
  | p :: xs, h => by
    have ih := One.lsum (xs := xs) (fun q hq => h q (List.mem_cons_of_mem _ hq))
    have e : Go.Proofs.Ytmplanlppjebnaa.lsum (p :: xs) = p.2.size + Go.Proofs.Ytmplanlppjebnaa.lsum xs := by simp [Go.Proofs.Ytmplanlppjebnaa.lsum]
    have h1 := h p (List.mem_cons_self ..)
    rw [e, ih, h1, List.length_cons]
    omega
set_option maxHeartbeats 2000000 in
theorem sameMoves_same (A A' : Option Addr) (n c c' : Nat) (xs : List Mv) (w : World) (hx : RdV w A n xs) (hy : RdV w A' n xs) (hn : n ≤ 1048576) :
    Calls Try.prog 11 #[.slice A n c, .slice A' n c'] w fun e w' => e = .returned (.bool true) ∧ Below w.heap.size w w' := by
  have HX := Lib.hid hx
  have HY := Lib.hid hy
  clear hx hy
  go_enter Try.func11, Try.ntmps11
  go_wp2_with fail
  go_loopw [5] (fun i wr => ∃ k : Nat, k ≤ n ∧ i = .int .i64 k ∧ Hid (∃ m, wr = w.drewN m)) (fun i _ => n - (intOf i).toNat)
  case atStart => exact ⟨0, Nat.zero_le _, rfl, 0, rfl⟩
  case round =>
    obtain ⟨k, hk, rfl, Hm⟩ := hrel
    by_cases hlt : k < n
    · obtain ⟨b, off, p, rfl, hpk, hd0, hd1⟩ := HX.out.at_ hlt
      obtain ⟨b', off', p', rfl, hpk', he0, he1⟩ := HY.out.at_ hlt
      rw [hpk] at hpk'
      cases hpk'
      have c0 : wr.cell? ⟨b, off + k * 2, none⟩ = some (.int .i64 p.1) := by obtain ⟨m, rfl⟩ := Hm.out; exact hd0
      have c1 : wr.cell? ⟨b, off + k * 2 + 1, none⟩ = some (.string p.2) := by obtain ⟨m, rfl⟩ := Hm.out; exact hd1
      have e0 : wr.cell? ⟨b', off' + k * 2, none⟩ = some (.int .i64 p.1) := by obtain ⟨m, rfl⟩ := Hm.out; exact he0
      have e1 : wr.cell? ⟨b', off' + k * 2 + 1, none⟩ = some (.string p.2) := by obtain ⟨m, rfl⟩ := Hm.out; exact he1
      have HEX : Hid (∀ q, ∃ m', wr.drewN q = w.drewN m') := fun q => by obtain ⟨m, rfl⟩ := Hm.out; exact ex_drew w m q
      clear hd0 hd1 he0 he1 hpk
      go_wp2_with fail
      go_quiet (fail)
      go_wp2_with fail
      go_roundw
      case rel => exact ⟨k + 1, by omega, by go_num, HEX.out _⟩
      case measure => simp [intOf]; omega
    · go_wp2_with fail
      go_ret
      exact ⟨rfl, by obtain ⟨m, rfl⟩ := Hm.out; exact below_of_drewN _ _ _⟩
set_option maxRecDepth 100000 in
set_option maxHeartbeats 8000000 in
theorem FnLineOrder_walk (w : World) (A : Option Addr) (n c : Nat) (bs : List UInt8) (hx : RdB w A n bs) (hl : n ≤ c) (hc : c ≤ maxLen) :
    Calls Try.prog 3 #[.slice A n c] w fun e w' => e = .returned (.bool true) ∧ Below w.heap.size w w' := by
  have HX := Lib.hid hx
  clear hx
  unfold maxLen at hc
  by_cases hbig : (1048576 : Int) < n
  · go_enter Try.func3, Try.ntmps3
    go_wp2_with fail
    go_ret
    exact ⟨rfl, Below.refl _ _⟩
  · have hsm : (n : Int) ≤ 1048576 := by omega
    clear hbig
    go_enter Try.func3, Try.ntmps3
    go_wp2_with fail
    refine (DrawLineOrder_any _ _ _ bs _ HX.out hl (by unfold maxLen; omega)).mono ?_
    rintro e w1 ⟨go, k, cap, rfl, hk, ⟨xs, hone, hown⟩, hb1⟩
    have HX1 := Lib.hid (RdV.of_own hown)
    have HXL := Lib.hid (RdV.of_own hown).len
    have HONE := Lib.hid hone
    have HB1 := Lib.hid hb1
    clear hown hone hb1
    go_wp2_with fail
    refine (implLineOrder_any go 0 k cap xs _ HX1.out (by omega)).mono ?_
    rintro e w2 ⟨g2, c2, ys, rfl, ho2, hst, hsg, hb2⟩
    have HX2 := Lib.hid (HX1.out.below hb2)
    have HY2 := Lib.hid (RdV.of_own ho2)
    have HST := Lib.hid hst
    have HSG := Lib.hid hsg
    have HB2 := Lib.hid (below_seq HB1.out hb2)
    clear ho2 hst hsg hb2 HX1 HB1
    go_wp2_with fail
    refine (specLineOrder_any go 0 k cap xs _ HX2.out (by omega)).mono ?_
    rintro e w3 ⟨g3, c3, zs, rfl, ho3, hst3, hsg3, hb3⟩
    obtain rfl : zs = ys := ord_same HXL.out HST.out HSG.out hst3 hsg3
    have HX3 := Lib.hid (HX2.out.below hb3)
    have HY3 := Lib.hid (HY2.out.below hb3)
    have HZ3 := Lib.hid (RdV.of_own ho3)
    have HB3 := Lib.hid (below_seq HB2.out hb3)
    clear ho3 hst3 hsg3 hb3 HX2 HY2 HB2
    go_wp2_with fail
    refine (sameMoves_same _ _ _ _ _ zs _ HY3.out HZ3.out (by omega)).mono ?_
    rintro e w4 ⟨rfl, hb4⟩
    have HX4 := Lib.hid (HX3.out.below hb4)
    have HY4 := Lib.hid (HY3.out.below hb4)
    have HZ4 := Lib.hid (HZ3.out.below hb4)
    have HB4 := Lib.hid (below_seq HB3.out hb4)
    clear hb4 HX3 HY3 HZ3 HB3
    by_cases hk0 : k = 0
    · subst hk0
      go_wp2_with fail
      refine (sameMoves_same _ _ _ _ _ zs _ HY4.out HZ4.out (by omega)).mono ?_
      rintro e w5 ⟨rfl, hb5⟩
      have HB5 := Lib.hid (below_seq HB4.out hb5)
      clear hb5
      go_wp2_with fail
      go_ret
      exact ⟨rfl, HB5.out⟩
    · have hk1 : ((k : Int) == 0) = false := by simp; omega
      have HLX : Hid (lsum xs ≤ 1048576) := by unfold Hid; rw [HONE.out.lsum, HXL.out]; omega
      have HZL : Hid (zs.length = k) := HY4.out.len
      have HLZ : Hid (lsum zs ≤ 1048576) := by unfold Hid; rw [(HONE.out.stab HST.out).lsum, HZL.out]; omega
      clear HZ4
      go_wp2_with fail
      go_loopw [6] (fun i wr => ∃ j : Nat, 1 ≤ j ∧ j ≤ k ∧ i = .int .i64 j ∧ Hid (∃ m, wr = w4.drewN m)) (fun i _ => k - (intOf i).toNat)
      case atStart => exact ⟨1, Nat.le_refl _, by omega, rfl, 0, rfl⟩
      case round =>
        obtain ⟨j, hj1, hjk, rfl, Hm⟩ := hrel
        by_cases hlt : j < k
        · obtain ⟨jp, rfl⟩ : ∃ jp, j = jp + 1 := ⟨j - 1, by omega⟩
          obtain ⟨b, off, p, e0, hp, c0', c1'⟩ := HY4.out.at_ hlt
          obtain ⟨b', off', q, e1, hq, d0', d1'⟩ := HY4.out.at_ (show jp < k by omega)
          simp only [Option.some.injEq, Addr.mk.injEq, and_true] at e0 e1
          obtain ⟨rfl, rfl⟩ := e0
          obtain ⟨rfl, rfl⟩ := e1
          have hpq : q.1 ≤ p.1 := HSG.out jp (jp + 1) q p (by omega) (by omega) (by omega) hq hp
          have hd : decide (p.1 < q.1) = false := decide_eq_false (by omega)
          have c0 : wr.cell? ⟨g2, 0 + (jp + 1) * 2, none⟩ = some (.int .i64 p.1) := by obtain ⟨m, rfl⟩ := Hm.out; exact c0'
          have d0 : wr.cell? ⟨g2, 0 + jp * 2, none⟩ = some (.int .i64 q.1) := by obtain ⟨m, rfl⟩ := Hm.out; exact d0'
          rw [Nat.zero_add] at c0 d0
          have HEX : Hid (∀ q, ∃ m', wr.drewN q = w4.drewN m') := fun q => by obtain ⟨m, rfl⟩ := Hm.out; exact ex_drew w4 m q
          have j0 : (0 : Int) ≤ (jp : Int) := by omega
          have j1 : (jp : Int) < k := by omega
          have j2 : (jp : Int) + 1 < k := by omega
          have hwp : IntKind.i64.wrap (jp : Int) = (jp : Int) := IntWalk.i64_in _ (by omega)
          clear hp hq c0' c1' d0' d1' hpq
          go_wp2_with fail
          go_quiet (fail)
          go_wp2_with fail
          go_roundw
          case rel => exact ⟨jp + 1 + 1, by omega, by omega, by go_num, HEX.out _⟩
          case measure => simp [intOf]; omega
        · have HB5 : Hid (Below w4.heap.size w4 wr) := by obtain ⟨m, rfl⟩ := Hm.out; exact below_of_drewN _ _ _
          clear Hm
          go_wp2_with fail
          go_loopw [7] (fun i wr => ∃ j : Nat, j ≤ 6 ∧ i = .int .i64 j ∧ Hid (Below w4.heap.size w4 wr)) (fun i _ => 6 - (intOf i).toNat)
          case atStart => exact ⟨0, Nat.zero_le _, rfl, HB5.out⟩
          case round =>
            clear HB5
            obtain ⟨t, ht6, rfl, HB5⟩ := hrel
            by_cases hlt6 : t < 6
            · go_wp2_with fail
              refine (implLineText_any _ _ _ zs _ _ (HY4.out.below HB5.out) (by omega) HLZ.out).mono ?_
              rintro e w6 ⟨rfl, hb6⟩
              have HB6 := Lib.hid (below_seq HB5.out hb6)
              clear hb6 HB5
              rw [ltx_stab HST.out]
              generalize hT : mkS (ltx (t : Int) xs) = T
              have HT := Lib.hid hT
              clear hT
              go_wp2_with fail
              refine (implLineText_any _ _ _ xs _ _ (HX4.out.below HB6.out) (by omega) HLX.out).mono ?_
              rintro e w7 ⟨rfl, hb7⟩
              have HB7 := Lib.hid (below_seq HB6.out hb7)
              clear hb7 HB6
              rw [HT.out]
              go_wp2_with fail
              go_roundw
              case rel => exact ⟨t + 1, by omega, by go_num, HB7.out⟩
              case measure => simp [intOf]; omega
            · go_wp2_with fail
              refine (implLineOrder_any g2 0 k c2 zs _ (HY4.out.below HB5.out) (by omega)).mono ?_
              rintro e w6 ⟨g6, c6, us, rfl, ho6, hst6, hsg6, hb6⟩
              obtain rfl : us = zs := ord_same HZL.out (So.Stab.refl _) HSG.out hst6 hsg6
              have HY6 := Lib.hid (HY4.out.below (below_seq HB5.out hb6))
              have HU6 := Lib.hid (RdV.of_own ho6)
              have HB6 := Lib.hid (below_seq HB5.out hb6)
              clear ho6 hst6 hsg6 hb6 HB5
              go_wp2_with fail
              refine (sameMoves_same _ _ _ _ _ us _ HU6.out HY6.out (by omega)).mono ?_
              rintro e w7 ⟨rfl, hb7⟩
              have HB7 := Lib.hid (below_seq HB4.out (below_seq HB6.out hb7))
              clear hb7
              go_wp2_with fail
              go_ret
              exact ⟨rfl, HB7.out⟩
end Go.Proofs.Ytmplanlppjebnaa
