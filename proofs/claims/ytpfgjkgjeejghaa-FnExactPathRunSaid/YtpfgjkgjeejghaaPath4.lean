/-
  Contracts of PathStands (the program's and the reference's).
  Conditions: the fields read as lists of integers.
-/
import Derived.Test.YtpfgjkgjeejghaaPath3
import Derived.Test.YtpfgjkgjeejghaaPathPlain2
namespace Go.Proofs.Ytpfgjkgjeejghaa
open Go.RowKit
set_option linter.unusedVariables false
attribute [local go_sem ↓] Go.wp_at_zero Go.wp_at_succ

theorem implValid_below (b : Nat) (A : Option Addr) (n c : Nat) (B : Option Addr) (m d : Nat) (xs ys : List Int) (N : Int) (w : World) (c0 : w.cell? ⟨b, 0, none⟩ = some (.slice A n c)) (c1 : w.cell? ⟨b, 1, none⟩ = some (.slice B m d)) (hx : RdI w A n xs) (hy : RdI w B m ys) :
    Calls Try.prog 51 #[.pointer (some ⟨b, 0, none⟩), .int .i64 N] w fun e w' => e = .returned (.bool (Pt.valid N xs ys)) ∧ Below w.heap.size w w' :=
  (implValid_any b A n c B m d xs ys N w c0 c1 hx hy).mono fun _ _ ⟨h, k, e⟩ => ⟨h, by rw [e]; exact below_of_drewN _ _ _⟩
set_option maxRecDepth 100000 in
set_option maxHeartbeats 4000000 in
theorem specPathStands_any (A : Option Addr) (n c : Nat) (B : Option Addr) (m d : Nat) (xs ys : List Int) (N : Int) (w : World) (hx : RdI w A n xs) (hy : RdI w B m ys) :
    Calls Try.prog 20 #[.int .i64 N, pv A n c B m d] w fun e w' => e = .returned (.int .i64 (Pt.stands N xs ys)) ∧ Below w.heap.size w w' := by
  have HB0 : Hid (Below w.heap.size w (w.alloc (.cells #[.slice A n c, .slice B m d] 28))) := (Below.refl w.heap.size w).alloc (Nat.le_refl _) _
  have HX := Lib.hid (RdI.below hx HB0.out)
  have HY := Lib.hid (RdI.below hy HB0.out)
  have HR0 : Hid (Room2 (w.alloc (.cells #[.slice A n c, .slice B m d] 28)) w.heap.size (.slice A n c) (.slice B m d)) := room2_new _ _ _ _
  have Hlx := Lib.hid hx.len
  have Hly := Lib.hid hy.len
  clear hx hy
  cases hv : Pt.valid N xs ys with
  | false =>
    have HV := Lib.hid hv
    have HS : Hid (Pt.stands N xs ys = -1) := by unfold Hid Pt.stands; rw [hv]; rfl
    clear hv
    go_enter Try.func20, Try.ntmps20
    go_wp2_with fail
    refine (specPathValid_any _ _ _ _ _ _ xs ys _ _ HX.out HY.out).mono ?_
    rintro e w1 ⟨rfl, hb1⟩
    rw [HV.out]
    have Hb1 := Lib.hid (below_seq HB0.out hb1)
    clear hb1
    go_wp2_with fail
    go_ret
    exact ⟨ret_int HS.out.symm, Hb1.out⟩
  | true =>
    have HV := Lib.hid hv
    obtain ⟨q, rfl, hq1, hq5, hlx, hly, hall⟩ := Pt.valid_parts hv
    have HS : Hid (Pt.stands (q : Int) xs ys = Pt.sd xs ys (q - 1)) := by unfold Hid Pt.stands; rw [hv]; rfl
    have HA := Lib.hid hall
    have HSB := Lib.hid (Pt.sd_bound hall)
    have hnq : n = q := by rw [← hlx, Hlx.out]
    have hmq : m = q := by rw [← hly, Hly.out]
    subst hnq hmq
    clear hv hall hlx hly
    go_enter Try.func20, Try.ntmps20
    go_wp2_with fail
    refine (specPathValid_any _ _ _ _ _ _ xs ys _ _ HX.out HY.out).mono ?_
    rintro e w1 ⟨rfl, hb1⟩
    rw [HV.out]
    have Hb1 := Lib.hid (below_seq HB0.out hb1)
    have HR1 := Lib.hid (HR0.out.later hb1)
    have HX1 := Lib.hid (RdI.below HX.out hb1)
    have HY1 := Lib.hid (RdI.below HY.out hb1)
    clear hb1
    go_wp2_with fail
    go_loopw [5, 6] (fun s i wr => ∃ (k : Nat), k + 1 ≤ m ∧ i = .int .i64 ((k : Int) + 1) ∧ s = .int .i64 (Pt.sd xs ys k) ∧ Hid (∃ s, wr = w1.drewN s)) (fun _ i _ => m - (intOf i).toNat)
    case atStart => exact ⟨0, by omega, rfl, rfl, ⟨0, rfl⟩⟩
    case round =>
      obtain ⟨k, hk, rfl, rfl, HS'⟩ := hrel
      have r0 : wr.cell? ⟨w.heap.size, 0, none⟩ = some (.slice A m c) := by obtain ⟨s, rfl⟩ := HS'.out; exact HR1.out.1
      have r1 : wr.cell? ⟨w.heap.size, 1, none⟩ = some (.slice B m d) := by obtain ⟨s, rfl⟩ := HS'.out; exact HR1.out.2.1
      have hsb := HSB.out k hk
      by_cases hlt : k + 1 < m
      · obtain ⟨b1, o1, x, rfl, hxk, hcx'⟩ := HX1.out.at_ hlt
        obtain ⟨b2, o2, y, rfl, hyk, hcy'⟩ := HY1.out.at_ (show k < m by omega)
        have hcx : wr.cell? ⟨b1, o1 + (k + 1), none⟩ = some (.int .i64 x) := by obtain ⟨s, rfl⟩ := HS'.out; exact hcx'
        have hcy : wr.cell? ⟨b2, o2 + k, none⟩ = some (.int .i64 y) := by obtain ⟨s, rfl⟩ := HS'.out; exact hcy'
        have ex : xs.getD (k + 1) 0 = x := by rw [List.getD_eq_getElem?_getD, hxk]; rfl
        have ey : ys.getD k 0 = y := by rw [List.getD_eq_getElem?_getD, hyk]; rfl
        have hbx := HA.out (k + 1) hlt
        have hby := HA.out k (by omega)
        rw [ex] at hbx
        rw [ey] at hby
        have HE : Hid (Pt.sd xs ys (k + 1) = Pt.sd xs ys k + (x - y)) := by unfold Hid; simp only [Pt.sd]; rw [ex, ey]
        clear hcx' hcy' hxk hyk ex ey
        generalize Pt.sd xs ys k = S at hsb HE ⊢
        go_wp2_with fail
        go_quiet (fail)
        go_wp2_with fail
        go_roundw
        case rel => exact ⟨k + 1, by omega, by go_num, by first | (rw [HE.out]; done) | (rw [HE.out]; go_num), by obtain ⟨s, rfl⟩ := HS'.out; first | exact ⟨_, rfl⟩ | exact ex_drew _ _ _⟩
        case measure => simp [intOf]; omega
      · have hkn : k = m - 1 := by omega
        go_wp2_with fail
        go_ret
        exact ⟨ret_int (by rw [HS.out, hkn]), by obtain ⟨s, rfl⟩ := HS'.out; exact below_drewN Hb1.out _⟩
set_option maxRecDepth 100000 in
set_option maxHeartbeats 4000000 in
theorem implPathStands_any (A : Option Addr) (n c : Nat) (B : Option Addr) (m d : Nat) (xs ys : List Int) (N : Int) (w : World) (hx : RdI w A n xs) (hy : RdI w B m ys) :
    Calls Try.prog 21 #[.int .i64 N, pv A n c B m d] w fun e w' => e = .returned (.int .i64 (Pt.stands N xs ys)) ∧ Below w.heap.size w w' := by
  have HB0 : Hid (Below w.heap.size w (w.alloc (.cells #[.slice A n c, .slice B m d] 28))) := (Below.refl w.heap.size w).alloc (Nat.le_refl _) _
  have HX := Lib.hid (RdI.below hx HB0.out)
  have HY := Lib.hid (RdI.below hy HB0.out)
  have HR0 : Hid (Room2 (w.alloc (.cells #[.slice A n c, .slice B m d] 28)) w.heap.size (.slice A n c) (.slice B m d)) := room2_new _ _ _ _
  have Hlx := Lib.hid hx.len
  have Hly := Lib.hid hy.len
  clear hx hy
  cases hv : Pt.valid N xs ys with
  | false =>
    have HV := Lib.hid hv
    have HS : Hid (Pt.stands N xs ys = -1) := by unfold Hid Pt.stands; rw [hv]; rfl
    clear hv
    go_enter Try.func21, Try.ntmps21
    go_wp2_with fail
    refine (implValid_below _ _ _ _ _ _ _ xs ys _ _ HR0.out.1 HR0.out.2.1 HX.out HY.out).mono ?_
    rintro e w1 ⟨rfl, hb1⟩
    rw [HV.out]
    have Hb1 := Lib.hid (below_seq HB0.out hb1)
    clear hb1
    go_wp2_with fail
    go_ret
    exact ⟨ret_int HS.out.symm, Hb1.out⟩
  | true =>
    have HV := Lib.hid hv
    obtain ⟨q, rfl, hq1, hq5, hlx, hly, hall⟩ := Pt.valid_parts hv
    have HS : Hid (Pt.stands (q : Int) xs ys = Pt.sd xs ys (q - 1)) := by unfold Hid Pt.stands; rw [hv]; rfl
    have HA := Lib.hid hall
    have HSB := Lib.hid (Pt.sd_bound hall)
    have hnq : n = q := by rw [← hlx, Hlx.out]
    have hmq : m = q := by rw [← hly, Hly.out]
    subst hnq hmq
    clear hv hall hlx hly
    go_enter Try.func21, Try.ntmps21
    go_wp2_with fail
    refine (implValid_below _ _ _ _ _ _ _ xs ys _ _ HR0.out.1 HR0.out.2.1 HX.out HY.out).mono ?_
    rintro e w1 ⟨rfl, hb1⟩
    rw [HV.out]
    have Hb1 := Lib.hid (below_seq HB0.out hb1)
    have HR1 := Lib.hid (HR0.out.later hb1)
    have HX1 := Lib.hid (RdI.below HX.out hb1)
    have HY1 := Lib.hid (RdI.below HY.out hb1)
    clear hb1
    go_wp2_with fail
    go_loopw [5, 6] (fun s i wr => ∃ (k : Nat), k + 1 ≤ m ∧ i = .int .i64 ((k : Int) + 1) ∧ s = .int .i64 (Pt.sd xs ys k) ∧ Hid (∃ s, wr = w1.drewN s)) (fun _ i _ => m - (intOf i).toNat)
    case atStart => exact ⟨0, by omega, rfl, rfl, ⟨0, rfl⟩⟩
    case round =>
      obtain ⟨k, hk, rfl, rfl, HS'⟩ := hrel
      have r0 : wr.cell? ⟨w.heap.size, 0, none⟩ = some (.slice A m c) := by obtain ⟨s, rfl⟩ := HS'.out; exact HR1.out.1
      have r1 : wr.cell? ⟨w.heap.size, 1, none⟩ = some (.slice B m d) := by obtain ⟨s, rfl⟩ := HS'.out; exact HR1.out.2.1
      have hsb := HSB.out k hk
      by_cases hlt : k + 1 < m
      · obtain ⟨b1, o1, x, rfl, hxk, hcx'⟩ := HX1.out.at_ hlt
        obtain ⟨b2, o2, y, rfl, hyk, hcy'⟩ := HY1.out.at_ (show k < m by omega)
        have hcx : wr.cell? ⟨b1, o1 + (k + 1), none⟩ = some (.int .i64 x) := by obtain ⟨s, rfl⟩ := HS'.out; exact hcx'
        have hcy : wr.cell? ⟨b2, o2 + k, none⟩ = some (.int .i64 y) := by obtain ⟨s, rfl⟩ := HS'.out; exact hcy'
        have ex : xs.getD (k + 1) 0 = x := by rw [List.getD_eq_getElem?_getD, hxk]; rfl
        have ey : ys.getD k 0 = y := by rw [List.getD_eq_getElem?_getD, hyk]; rfl
        have hbx := HA.out (k + 1) hlt
        have hby := HA.out k (by omega)
        rw [ex] at hbx
        rw [ey] at hby
        have HE : Hid (Pt.sd xs ys (k + 1) = Pt.sd xs ys k + (x - y)) := by unfold Hid; simp only [Pt.sd]; rw [ex, ey]
        clear hcx' hcy' hxk hyk ex ey
        generalize Pt.sd xs ys k = S at hsb HE ⊢
        go_wp2_with fail
        go_quiet (fail)
        go_wp2_with fail
        go_roundw
        case rel => exact ⟨k + 1, by omega, by go_num, by first | (rw [HE.out]; done) | (rw [HE.out]; go_num), by obtain ⟨s, rfl⟩ := HS'.out; first | exact ⟨_, rfl⟩ | exact ex_drew _ _ _⟩
        case measure => simp [intOf]; omega
      · have hkn : k = m - 1 := by omega
        go_wp2_with fail
        go_ret
        exact ⟨ret_int (by rw [HS.out, hkn]), by obtain ⟨s, rfl⟩ := HS'.out; exact below_drewN Hb1.out _⟩
end Go.Proofs.Ytpfgjkgjeejghaa
