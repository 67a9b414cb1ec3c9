/-
  Contracts of the laws' helpers over paths: eqPath, markPath, heldPath; of a path's check (the program's and the reference's).
  Conditions: the fields read as lists of integers.
-/
import Derived.Test.YtpfgjkgjeejghaaPath1
import Derived.Test.YtpfgjkgjeejghaaChg
namespace Go.Proofs.Ytpfgjkgjeejghaa
open Go.RowKit
set_option linter.unusedVariables false
attribute [local go_sem ↓] Go.wp_at_zero Go.wp_at_succ

set_option maxHeartbeats 2000000 in
theorem eqPath_same (A : Option Addr) (n c : Nat) (B : Option Addr) (m d : Nat) (A' : Option Addr) (n' c' : Nat) (B' : Option Addr) (m' d' : Nat) (xs ys : List Int) (w : World) (hx : RdI w A n xs) (hy : RdI w B m ys) (hx' : RdI w A' n' xs) (hy' : RdI w B' m' ys) (hn : n ≤ 1099511627776) (hm : m ≤ 1099511627776) :
    Calls Try.prog 19 #[pv A n c B m d, pv A' n' c' B' m' d'] w fun e w' => e = .returned (.bool true) ∧ Below w.heap.size w w' := by
  have HX := Lib.hid hx
  have HY := Lib.hid hy
  have HX' := Lib.hid hx'
  have HY' := Lib.hid hy'
  clear hx hy hx' hy'
  have HB0 : Hid (Below w.heap.size w ((w.alloc (.cells #[.slice A n c, .slice B m d] 28)).alloc (.cells #[.slice A' n' c', .slice B' m' d'] 28))) :=
    ((Below.refl w.heap.size w).alloc (Nat.le_refl _) _).alloc (by simp) _
  go_enter Try.func19, Try.ntmps19
  go_wp2_with fail
  refine (eqIntS_any _ _ _ _ _ _ xs xs _ (Rd.below HX.out HB0.out) (Rd.below HX'.out HB0.out) hn).mono ?_
  rintro e w1 ⟨rfl, k, rfl⟩
  rw [decide_eq_true (rfl : xs = xs)]
  go_wp2_with fail
  refine (eqIntS_any _ _ _ _ _ _ ys ys _ (Rd.drewN (Rd.below HY.out HB0.out) _) (Rd.drewN (Rd.below HY'.out HB0.out) _) hm).mono ?_
  rintro e w1 ⟨rfl, k', rfl⟩
  rw [decide_eq_true (rfl : ys = ys)]
  go_wp2_with fail
  go_ret
  exact ⟨rfl, below_drewN HB0.out _⟩
set_option maxHeartbeats 2000000 in
theorem heldPath_any (A : Option Addr) (n c : Nat) (B : Option Addr) (m d : Nat) (q : Int) (w : World) (hx : RdI w A n (iota q n)) (hy : RdI w B m (iota (q + n) m)) (hn : n ≤ 1048576) (hm : m ≤ 1048576) (hq : 0 ≤ q) (hq2 : q ≤ 1048576) :
    Calls Try.prog 31 #[pv A n c B m d, .int .i64 q] w fun e w' => e = .returned (.int .i64 (q + n + m)) ∧ Below w.heap.size w w' := by
  have HX := Lib.hid hx
  have HY := Lib.hid hy
  clear hx hy
  have HB0 : Hid (Below w.heap.size w (w.alloc (.cells #[.slice A n c, .slice B m d] 28))) := (Below.refl w.heap.size w).alloc (Nat.le_refl _) _
  go_enter Try.func31, Try.ntmps31
  go_wp2_with fail
  refine (heldIntS_any _ _ _ q _ (Rd.below HX.out HB0.out) (by omega) (by omega) (by omega)).mono ?_
  rintro e w1 ⟨rfl, rfl⟩
  go_wp2_with fail
  refine (heldIntS_any _ _ _ (q + n) _ (Rd.below HY.out HB0.out) (by omega) (by omega) (by omega)).mono ?_
  rintro e w1 ⟨rfl, rfl⟩
  go_wp2_with fail
  go_ret
  exact ⟨rfl, HB0.out⟩
set_option maxHeartbeats 2000000 in
theorem markPath_any (A : Option Addr) (n c : Nat) (B : Option Addr) (m d : Nat) (xs ys : List Int) (q : Int) (base : Nat) (w : World) (h : OwnP w base A n c xs B m d ys) (hn : n ≤ 1048576) (hm : m ≤ 1048576) (hq : 0 ≤ q) (hq2 : q ≤ 4194304) :
    Calls Try.prog 25 #[pv A n c B m d, .int .i64 q] w fun e w' => e = .returned (.int .i64 (q + n + m)) ∧ OwnP w' base A n c (iota q n) B m d (iota (q + n) m) ∧
      Chg (fun k => some k = (Value.slice A n c).ownBlock ∨ some k = (Value.slice B m d).ownBlock) w w' := by
  have HB0 : Hid (Below w.heap.size w (w.alloc (.cells #[.slice A n c, .slice B m d] 28))) := (Below.refl w.heap.size w).alloc (Nat.le_refl _) _
  have HO0 := Lib.hid (h.below HB0.out)
  have HR0 : Hid (Room2 (w.alloc (.cells #[.slice A n c, .slice B m d] 28)) w.heap.size (.slice A n c) (.slice B m d)) := room2_new _ _ _ _
  have HlA : Hid (∀ g, (Value.slice A n c).ownBlock = some g → g < w.heap.size) := fun g hg => (h.1.lt g hg).2
  have HlB : Hid (∀ g, (Value.slice B m d).ownBlock = some g → g < w.heap.size) := fun g hg => (h.2.1.lt g hg).2
  clear h
  go_enter Try.func25, Try.ntmps25
  go_wp2_with fail
  refine (markIntS_any _ _ _ xs q base _ HO0.out.1 (by omega) (by omega) (by omega)).mono ?_
  rintro e w1 ⟨rfl, ho1, hg1⟩
  have HO1 : Hid (OwnP w1 base A n c (iota q n) B m d ys) := ⟨ho1, own_kept HO0.out.2.1 hg1 (fun g r h1 h2 => fun e => HO0.out.2.2 r g h2 h1 e.symm), HO0.out.2.2⟩
  have HC1 : Hid (Chg (fun k => some k = (Value.slice A n c).ownBlock ∨ some k = (Value.slice B m d).ownBlock) w w1) := (Chg.of_below HB0.out).trans (Chg.of_grown hg1) (fun i _ e => Or.inl e)
  have HR1 : Hid (w1.cell? ⟨w.heap.size, 1, none⟩ = some (.slice B m d)) := (Chg.of_grown hg1).cell HR0.out.2.1 (fun e => by have := HlA.out _ e.symm; omega)
  clear ho1 hg1
  have hr := HR1.out
  go_wp2_with fail
  refine (markIntS_any _ _ _ ys (q + n) base _ HO1.out.2.1 (by omega) (by omega) (by omega)).mono ?_
  rintro e w2 ⟨rfl, ho2, hg2⟩
  have HO2 : Hid (OwnP w2 base A n c (iota q n) B m d (iota (q + n) m)) := ⟨own_kept HO1.out.1 hg2 (fun g r h1 h2 => HO1.out.2.2 g r h1 h2), ho2, HO1.out.2.2⟩
  have HC2 : Hid (Chg (fun k => some k = (Value.slice A n c).ownBlock ∨ some k = (Value.slice B m d).ownBlock) w w2) := HC1.out.trans (Chg.of_grown hg2) (fun i _ e => Or.inr e)
  clear ho2 hg2
  go_wp2_with fail
  go_ret
  exact ⟨rfl, HO2.out, HC2.out⟩
theorem sectionsValid_any (N : Int) (w : World) :
    Calls Try.prog 72 #[.int .i64 N] w fun e w' => e = .returned (.bool (decide (1 ≤ N ∧ N ≤ 5))) ∧ w = w' := by
  by_cases h1 : 1 ≤ N
  · by_cases h2 : N ≤ 5
    · have H : Hid (decide (1 ≤ N ∧ N ≤ 5) = true) := decide_eq_true ⟨h1, h2⟩
      go_enter Try.func72, Try.ntmps72
      go_wp2_with fail
      go_ret
      exact ⟨ret_bool H.out.symm, rfl⟩
    · have H : Hid (decide (1 ≤ N ∧ N ≤ 5) = false) := decide_eq_false (by omega)
      have h3 : decide (N ≤ 5) = false := decide_eq_false h2
      clear h2
      go_enter Try.func72, Try.ntmps72
      go_wp2_with fail
      go_ret
      exact ⟨ret_bool H.out.symm, rfl⟩
  · have H : Hid (decide (1 ≤ N ∧ N ≤ 5) = false) := decide_eq_false (by omega)
    have h3 : decide (1 ≤ N) = false := decide_eq_false h1
    have h4 : N < 1 := by omega
    clear h1
    go_enter Try.func72, Try.ntmps72
    go_wp2_with fail
    go_ret
    exact ⟨ret_bool H.out.symm, rfl⟩
set_option maxHeartbeats 4000000 in
theorem implValid_any (b : Nat) (A : Option Addr) (n c : Nat) (B : Option Addr) (m d : Nat) (xs ys : List Int) (N : Int) (w : World) (c0 : w.cell? ⟨b, 0, none⟩ = some (.slice A n c)) (c1 : w.cell? ⟨b, 1, none⟩ = some (.slice B m d)) (hx : RdI w A n xs) (hy : RdI w B m ys) :
    Calls Try.prog 51 #[.pointer (some ⟨b, 0, none⟩), .int .i64 N] w fun e w' => e = .returned (.bool (Pt.valid N xs ys)) ∧ ∃ k, w' = w.drewN k := by
  have HX := Lib.hid hx
  have HY := Lib.hid hy
  have Hlx := Lib.hid hx.len
  have Hly := Lib.hid hy.len
  clear hx hy
  by_cases hN : 1 ≤ N ∧ N ≤ 5
  · obtain ⟨q, rfl⟩ : ∃ q : Nat, N = q := ⟨N.toNat, by omega⟩
    have HN : Hid (decide (1 ≤ (q : Int) ∧ (q : Int) ≤ 5) = true) := decide_eq_true hN
    by_cases hnq : n = q
    · subst hnq
      by_cases hmq : m = n
      · subst hmq
        have HV : Hid (Pt.valid (m : Int) xs ys = (Pt.vst xs ys m).isSome) := Pt.valid_at (by omega) Hlx.out Hly.out
        have HF : Hid (∀ k, k < m → Pt.vst xs ys (k + 1) = none → Pt.valid (m : Int) xs ys = false) := fun k hk hv => Pt.valid_fail (by omega) Hlx.out Hly.out hk hv
        go_enter Try.func51, Try.ntmps51
        go_wp2_with fail
        refine (sectionsValid_any _ _).mono ?_
        rintro e w1 ⟨rfl, rfl⟩
        rw [HN.out]
        go_wp2_with fail
        go_loopw [5, 29] (fun e i wr => ∃ (k : Nat) (ev : Int), k ≤ m ∧ i = .int .i64 k ∧ e = .int .i64 ev ∧ Hid (Pt.vst xs ys k = some ev) ∧ ∃ s, wr = w.drewN s) (fun _ i _ => m - (intOf i).toNat)
        case atStart => exact ⟨0, 0, Nat.zero_le _, rfl, rfl, rfl, 0, rfl⟩
        case round =>
          obtain ⟨k, ev, hk, rfl, rfl, Hk, s, rfl⟩ := hrel
          by_cases hlt : k < m
          · obtain ⟨b1, o1, x, rfl, hxk, hcx⟩ := HX.out.at_ hlt
            obtain ⟨b2, o2, y, rfl, hyk, hcy⟩ := HY.out.at_ hlt
            have ex : xs.getD k 0 = x := by rw [List.getD_eq_getElem?_getD, hxk]; rfl
            have ey : ys.getD k 0 = y := by rw [List.getD_eq_getElem?_getD, hyk]; rfl
            have HE := Lib.hid (And.intro ex ey)
            clear hxk hyk ex ey
            by_cases t1 : x < ev
            · have HB : Hid (Pt.valid (m : Int) xs ys = false) := HF.out k hlt (Pt.vst_no Hk.out (by rw [HE.out.1, HE.out.2]; omega))
              have d1 : decide (x < ev) = true := decide_eq_true t1
              clear t1
              go_wp2_with fail
              go_quiet (fail)
              go_wp2_with fail
              go_ret
              exact ⟨ret_bool HB.out.symm, by first | exact ⟨_, rfl⟩ | exact ex_drew _ _ _⟩
            · have d1 : decide (x < ev) = false := decide_eq_false t1
              by_cases t2 : y ≤ x
              · have HB : Hid (Pt.valid (m : Int) xs ys = false) := HF.out k hlt (Pt.vst_no Hk.out (by rw [HE.out.1, HE.out.2]; omega))
                have d2 : decide (y ≤ x) = true := decide_eq_true t2
                clear t1 t2
                go_wp2_with fail
                go_quiet (fail)
                go_wp2_with fail
                go_ret
                exact ⟨ret_bool HB.out.symm, by first | exact ⟨_, rfl⟩ | exact ex_drew _ _ _⟩
              · have d2 : decide (y ≤ x) = false := decide_eq_false t2
                by_cases t3 : 2000 < y
                · have HB : Hid (Pt.valid (m : Int) xs ys = false) := HF.out k hlt (Pt.vst_no Hk.out (by rw [HE.out.1, HE.out.2]; omega))
                  have d3 : decide (2000 < y) = true := decide_eq_true t3
                  clear t1 t2 t3
                  go_wp2_with fail
                  go_quiet (fail)
                  go_wp2_with fail
                  go_ret
                  exact ⟨ret_bool HB.out.symm, by first | exact ⟨_, rfl⟩ | exact ex_drew _ _ _⟩
                · have d3 : decide (2000 < y) = false := decide_eq_false t3
                  have HB : Hid (Pt.vst xs ys (k + 1) = some y) := by have := Pt.vst_yes Hk.out (by rw [HE.out.1]; omega) (by rw [HE.out.1, HE.out.2]; omega) (by rw [HE.out.2]; omega); rw [HE.out.2] at this; exact this
                  clear t1 t2 t3
                  go_wp2_with fail
                  go_quiet (fail)
                  go_wp2_with fail
                  go_roundw
                  case rel => exact ⟨k + 1, y, by omega, by go_num, rfl, HB.out, by first | exact ⟨_, rfl⟩ | exact ex_drew _ _ _⟩
                  case measure => simp [intOf]; omega
          · have hkn : k = m := by omega
            subst hkn
            go_wp2_with fail
            go_ret
            exact ⟨ret_bool (by rw [HV.out, Hk.out]; rfl), _, rfl⟩
      · have HV : Hid (Pt.valid (n : Int) xs ys = false) := Pt.valid_no_y (by rw [Hly.out]; omega)
        have hne : ((m : Int) != (n : Int)) = true := by simp; omega
        go_enter Try.func51, Try.ntmps51
        go_wp2_with fail
        refine (sectionsValid_any _ _).mono ?_
        rintro e w1 ⟨rfl, rfl⟩
        rw [HN.out]
        go_wp2_with fail
        go_ret
        exact ⟨ret_bool HV.out.symm, 0, rfl⟩
    · have HV : Hid (Pt.valid (q : Int) xs ys = false) := Pt.valid_no_x (by rw [Hlx.out]; omega)
      have hne : ((n : Int) != (q : Int)) = true := by simp; omega
      go_enter Try.func51, Try.ntmps51
      go_wp2_with fail
      refine (sectionsValid_any _ _).mono ?_
      rintro e w1 ⟨rfl, rfl⟩
      rw [HN.out]
      go_wp2_with fail
      go_ret
      exact ⟨ret_bool HV.out.symm, 0, rfl⟩
  · have HV : Hid (Pt.valid N xs ys = false) := Pt.valid_no_n hN
    have HN : Hid (decide (1 ≤ N ∧ N ≤ 5) = false) := decide_eq_false hN
    go_enter Try.func51, Try.ntmps51
    go_wp2_with fail
    refine (sectionsValid_any _ _).mono ?_
    rintro e w1 ⟨rfl, rfl⟩
    rw [HN.out]
    go_wp2_with fail
    go_ret
    exact ⟨ret_bool HV.out.symm, 0, rfl⟩
theorem implPathValid_any (A : Option Addr) (n c : Nat) (B : Option Addr) (m d : Nat) (xs ys : List Int) (N : Int) (w : World) (hx : RdI w A n xs) (hy : RdI w B m ys) :
    Calls Try.prog 18 #[.int .i64 N, pv A n c B m d] w fun e w' => e = .returned (.bool (Pt.valid N xs ys)) ∧ Below w.heap.size w w' := by
  have HB0 : Hid (Below w.heap.size w (w.alloc (.cells #[.slice A n c, .slice B m d] 28))) := (Below.refl w.heap.size w).alloc (Nat.le_refl _) _
  have HX := Lib.hid (Rd.below hx HB0.out)
  have HY := Lib.hid (Rd.below hy HB0.out)
  have HR0 : Hid (Room2 (w.alloc (.cells #[.slice A n c, .slice B m d] 28)) w.heap.size (.slice A n c) (.slice B m d)) := room2_new _ _ _ _
  clear hx hy
  go_enter Try.func18, Try.ntmps18
  go_wp2_with fail
  refine (implValid_any _ _ _ _ _ _ _ _ _ _ _ HR0.out.1 HR0.out.2.1 HX.out HY.out).mono ?_
  rintro e w1 ⟨rfl, k, rfl⟩
  go_wp2_with fail
  go_ret
  exact ⟨rfl, below_drewN HB0.out _⟩
end Go.Proofs.Ytpfgjkgjeejghaa
