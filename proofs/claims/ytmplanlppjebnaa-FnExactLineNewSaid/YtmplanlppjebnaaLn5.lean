/-
  Contracts of the laws' helpers eqLine, markLine, heldLine on lines of the call's own.
  Conditions: at most 5 sections and 5 trains.
-/
import Derived.Test.YtmplanlppjebnaaLn4
namespace Go.Proofs.Ytmplanlppjebnaa
open Go.RowKit
set_option linter.unusedVariables false
set_option linter.unusedSimpArgs false
attribute [local go_sem ↓] Go.wp_at_zero Go.wp_at_succ

/-- A line as a value. -/
abbrev lv (g n h m : Nat) : Value := .agg #[.slice (some ⟨g, 0, none⟩) n n, .slice (some ⟨h, 0, none⟩) m m]
/-- A line of the call's own. -/
structure OwnL (W : World) (base g n h m : Nat) (xs : List B3) (zs : List Int) : Prop where
  bl : W.ownsRow base 82 3 (.slice (some ⟨g, 0, none⟩) n n) n (flat3 xs)
  tr : W.ownsRow base 3 1 (.slice (some ⟨h, 0, none⟩) m m) m (zs.map (Value.int .i64))
  ne : g ≠ h
theorem OwnL.below {W W' : World} {base g n h m : Nat} {xs : List B3} {zs : List Int} (o : OwnL W base g n h m xs zs) (hb : Below W.heap.size W W') : OwnL W' base g n h m xs zs := ⟨own_belowAll o.bl hb, own_belowAll o.tr hb, o.ne⟩
set_option maxHeartbeats 4000000 in
theorem eqLine_same (base base' g n h m g' h' : Nat) (xs : List B3) (zs : List Int) (w : World) (ho : OwnL w base g n h m xs zs) (ho' : OwnL w base' g' n h' m xs zs) (hn : n ≤ 5) (hm : m ≤ 5) :
    Calls Try.prog 19 #[lv g n h m, lv g' n h' m] w fun e w' => e = .returned (.bool true) ∧ Below w.heap.size w w' := by
  have HB0 : Hid (Below w.heap.size w ((w.alloc (.cells #[.slice (some ⟨g, 0, none⟩) n n, .slice (some ⟨h, 0, none⟩) m m] 38)).alloc (.cells #[.slice (some ⟨g', 0, none⟩) n n, .slice (some ⟨h', 0, none⟩) m m] 38))) := ((Below.refl w.heap.size w).alloc (Nat.le_refl _) _).alloc (by simp) _
  have HC : Hid (((w.alloc (.cells #[.slice (some ⟨g, 0, none⟩) n n, .slice (some ⟨h, 0, none⟩) m m] 38)).alloc (.cells #[.slice (some ⟨g', 0, none⟩) n n, .slice (some ⟨h', 0, none⟩) m m] 38)).cell? ⟨w.heap.size, 1, none⟩ = some (.slice (some ⟨h, 0, none⟩) m m) ∧ ((w.alloc (.cells #[.slice (some ⟨g, 0, none⟩) n n, .slice (some ⟨h, 0, none⟩) m m] 38)).alloc (.cells #[.slice (some ⟨g', 0, none⟩) n n, .slice (some ⟨h', 0, none⟩) m m] 38)).cell? ⟨w.heap.size + 1, 1, none⟩ = some (.slice (some ⟨h', 0, none⟩) m m)) := by constructor <;> simp [go_sem]
  have HO := Lib.hid (ho.below HB0.out)
  have HO' := Lib.hid (ho'.below HB0.out)
  clear ho ho'
  go_enter Try.func19, Try.ntmps19
  go_wp2_with fail
  refine (eqBlockS_same base base' g g' n n n xs _ HO.out.bl HO'.out.bl (by omega)).mono ?_
  rintro e w1 ⟨rfl, hb1⟩
  have c0 := (hb1.cell (block_lt_of_cell HC.out.1)).trans HC.out.1
  have c1 := (hb1.cell (block_lt_of_cell HC.out.2)).trans HC.out.2
  have HT := Lib.hid (own_belowAll HO.out.tr hb1)
  have HT' := Lib.hid (own_belowAll HO'.out.tr hb1)
  have Hb1 := Lib.hid (below_seq HB0.out hb1)
  clear hb1 HB0 HC HO HO'
  go_wp2_with fail
  refine (eqIntS_any _ _ _ _ _ _ zs zs _ (RdI.of_own HT.out) (RdI.of_own HT'.out) (by omega)).mono ?_
  rintro e w2 ⟨rfl, k, rfl⟩
  rw [decide_eq_true (rfl : zs = zs)]
  go_wp2_with fail
  go_ret
  exact ⟨rfl, below_drewN Hb1.out _⟩
set_option maxHeartbeats 4000000 in
theorem markLine_any (base g n h m : Nat) (xs : List B3) (zs : List Int) (w : World) (ho : OwnL w base g n h m xs zs) (hn : n ≤ 5) (hm : m ≤ 5) (hbw : base ≤ w.heap.size) :
    Calls Try.prog 20 #[lv g n h m, .int .i64 1] w fun e w' => e = .returned (.int .i64 (1 + 3 * (n : Int) + m)) ∧ OwnL w' base g n h m (mkb n) (iota (1 + 3 * (n : Int)) m) ∧ (∀ B, B ≤ base → Below B w w') ∧ (∀ (p : Addr) (v : Value), w.cell? p = some v → p.block ≠ g → p.block ≠ h → w'.cell? p = some v) := by
  have HB0 : Hid (Below w.heap.size w (w.alloc (.cells #[.slice (some ⟨g, 0, none⟩) n n, .slice (some ⟨h, 0, none⟩) m m] 38))) := (Below.refl w.heap.size w).alloc (Nat.le_refl _) _
  have HC : Hid ((w.alloc (.cells #[.slice (some ⟨g, 0, none⟩) n n, .slice (some ⟨h, 0, none⟩) m m] 38)).cell? ⟨w.heap.size, 1, none⟩ = some (.slice (some ⟨h, 0, none⟩) m m)) := by simp [Hid, go_sem]
  have hgl := ho.bl.lt g rfl
  have hhl := ho.tr.lt h rfl
  have HO := Lib.hid (ho.below HB0.out)
  clear ho
  go_enter Try.func20, Try.ntmps20
  go_wp2_with fail
  refine (markBlockS_any base g n n xs _ HO.out.bl (by omega)).mono ?_
  rintro e w1 ⟨rfl, hb1, hg1⟩
  have c0 := hg1.cell (a := ⟨w.heap.size, 1, none⟩) HC.out (fun e => by have h2 : w.heap.size = g := Option.some.inj e; omega)
  have HT := Lib.hid (own_kept HO.out.tr hg1 (fun a r e1 e2 => by have h1 : h = a := Option.some.inj e1; have h2 : g = r := Option.some.inj e2; have := HO.out.ne; omega))
  have HBL := Lib.hid hb1
  have HD1 : Hid (∀ B, B ≤ base → Below B w w1) := fun B hB => (HB0.out.mono (by omega)).grown hg1 (by simp; omega) (fun r e => by have h2 : g = r := Option.some.inj e; omega)
  have HX1 : Hid (∀ (p : Addr) (v : Value), w.cell? p = some v → p.block ≠ g → w1.cell? p = some v) := fun p v hp hne => hg1.cell ((HB0.out.cell (block_lt_of_cell hp)).trans hp) (fun e => hne (Option.some.inj e))
  have hz1 : w.heap.size ≤ w1.heap.size := by have := hg1.size; simp at this; omega
  clear hb1 hg1 HC HB0
  go_wp2_with fail
  refine (markIntS_any _ _ _ zs (1 + 3 * (n : Int)) base _ HT.out (by omega) (by omega) (by omega)).mono ?_
  rintro e w2 ⟨rfl, ht2, hg2⟩
  have HF : Hid (OwnL w2 base g n h m (mkb n) (iota (1 + 3 * (n : Int)) m) ∧ (∀ B, B ≤ base → Below B w w2) ∧ (∀ (p : Addr) (v : Value), w.cell? p = some v → p.block ≠ g → p.block ≠ h → w2.cell? p = some v)) := ⟨⟨own_kept HBL.out hg2 (fun a r e1 e2 => by have h1 : g = a := Option.some.inj e1; have h2 : h = r := Option.some.inj e2; have := HO.out.ne; omega), ht2, HO.out.ne⟩, fun B hB => (HD1.out B hB).grown hg2 (by omega) (fun r e => by have h2 : h = r := Option.some.inj e; omega), fun p v hp h1 h2 => hg2.cell (HX1.out p v hp h1) (fun e => h2 (Option.some.inj e))⟩
  clear ht2 hg2
  go_wp2_with fail
  go_ret
  exact ⟨rfl, HF.out.1, HF.out.2⟩
set_option maxHeartbeats 4000000 in
theorem heldLine_any (base g n h m : Nat) (w : World) (ho : OwnL w base g n h m (mkb n) (iota (1 + 3 * (n : Int)) m)) (hn : n ≤ 5) (hm : m ≤ 5) :
    Calls Try.prog 21 #[lv g n h m, .int .i64 1] w fun e w' => e = .returned (.int .i64 (1 + 3 * (n : Int) + m)) ∧ Below w.heap.size w w' := by
  have HB0 : Hid (Below w.heap.size w (w.alloc (.cells #[.slice (some ⟨g, 0, none⟩) n n, .slice (some ⟨h, 0, none⟩) m m] 38))) := (Below.refl w.heap.size w).alloc (Nat.le_refl _) _
  have HO := Lib.hid (ho.below HB0.out)
  have d1 : decide (1 + 3 * (n : Int) < 0) = false := decide_eq_false (by omega)
  have d2 : ¬ (1 + 3 * (n : Int) < 0) := by omega
  have d3 : decide (1 + 3 * (n : Int) + m < 0) = false := decide_eq_false (by omega)
  have d4 : ¬ (1 + 3 * (n : Int) + m < 0) := by omega
  clear ho
  go_enter Try.func21, Try.ntmps21
  go_wp2_with fail
  refine (heldBlockS_any base g n n _ HO.out.bl (by omega)).mono ?_
  rintro e w1 ⟨rfl, rfl⟩
  go_wp2_with fail
  refine (heldIntS_any _ _ _ (1 + 3 * (n : Int)) _ (RdI.of_own HO.out.tr) (by omega) (by omega) (by omega)).mono ?_
  rintro e w1 ⟨rfl, rfl⟩
  go_wp2_with fail
  go_ret
  exact ⟨rfl, HB0.out⟩
end Go.Proofs.Ytmplanlppjebnaa
