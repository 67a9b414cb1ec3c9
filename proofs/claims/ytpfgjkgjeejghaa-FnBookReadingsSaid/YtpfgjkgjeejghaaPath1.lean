/-
  Contracts of the laws' helpers over paths: szPath, toPath, eqPath; of a path's check (the program's and the reference's).
  Conditions: the fields read as lists of integers.
-/
import Derived.Test.YtpfgjkgjeejghaaInts
import Derived.Test.YtpfgjkgjeejghaaCodes
import Derived.Test.YtpfgjkgjeejghaaPathPlain
import Derived.Handy
import Derived.Deep.RegionWith
import Derived.Deep.DrawnRows
import Derived.StillTailTactics
import Derived.IntWalk
namespace Go.Proofs.Ytpfgjkgjeejghaa
open Go.RowKit
set_option linter.unusedVariables false
attribute [local go_sem ↓] Go.wp_at_zero Go.wp_at_succ

/-- A path as a value. -/
abbrev pv (A : Option Addr) (n c : Nat) (B : Option Addr) (m d : Nat) : Value := .agg #[.slice A n c, .slice B m d]
/-- A block of two cells that can be written. -/
def Room2 (w : World) (b : Nat) (v0 v1 : Value) : Prop := w.cell? ⟨b, 0, none⟩ = some v0 ∧ w.cell? ⟨b, 1, none⟩ = some v1 ∧ w.frozen? ⟨b, 0, none⟩ = false ∧ w.frozen? ⟨b, 1, none⟩ = false
theorem Room2.later {w w' : World} {b : Nat} {v0 v1 : Value} (h : Room2 w b v0 v1) (hb : Below w.heap.size w w') : Room2 w' b v0 v1 := by
  obtain ⟨h0, h1, f0, f1⟩ := h
  exact ⟨(hb.cell (block_lt_of_cell h0)).trans h0, (hb.cell (block_lt_of_cell h1)).trans h1, (hb.frozen (block_lt_of_cell h0)).trans f0, (hb.frozen (block_lt_of_cell h1)).trans f1⟩
theorem Room2.lt {w : World} {b : Nat} {v0 v1 : Value} (h : Room2 w b v0 v1) : b < w.heap.size := block_lt_of_cell h.1
theorem Room2.alloc {w : World} {b : Nat} {v0 v1 : Value} (h : Room2 w b v0 v1) (o : Obj) : Room2 (w.alloc o) b v0 v1 := h.later ((Below.refl _ _).alloc (Nat.le_refl _) o)
theorem Room2.drewN {w : World} {b : Nat} {v0 v1 : Value} (h : Room2 w b v0 v1) (k : Nat) : Room2 (w.drewN k) b v0 v1 := h
theorem room2_new (w : World) (v0 v1 : Value) (t : TypeId) : Room2 (w.alloc (.cells #[v0, v1] t)) w.heap.size v0 v1 := by
  refine ⟨?_, ?_, ?_, ?_⟩ <;> simp [go_sem]
theorem Room2.set0 {w : World} {b : Nat} {v0 v1 : Value} (h : Room2 w b v0 v1) (v : Value) : Room2 (w.setCell ⟨b, 0, none⟩ v) b v v1 := by
  obtain ⟨h0, h1, f0, f1⟩ := h
  refine ⟨?_, ?_, ?_, ?_⟩ <;> simp [go_sem, h0, h1, f0, f1]
theorem Room2.set1 {w : World} {b : Nat} {v0 v1 : Value} (h : Room2 w b v0 v1) (v : Value) : Room2 (w.setCell ⟨b, 1, none⟩ v) b v0 v := by
  obtain ⟨h0, h1, f0, f1⟩ := h
  refine ⟨?_, ?_, ?_, ?_⟩ <;> simp [go_sem, h0, h1, f0, f1]
set_option linter.unusedSimpArgs false in
theorem Room2.far {w : World} {b b' j : Nat} {v0 v1 : Value} (h : Room2 w b v0 v1) (hne : ¬ b = b') (v : Value) : Room2 (w.setCell ⟨b', j, none⟩ v) b v0 v1 := by
  have hne' : ¬ b' = b := fun e => hne e.symm
  obtain ⟨h0, h1, f0, f1⟩ := h
  refine ⟨?_, ?_, ?_, ?_⟩ <;> simp [go_sem, h0, h1, f0, f1, hne', hne]
theorem below_set {w w1 : World} {b j : Nat} (h : Below w.heap.size w w1) (hb : w.heap.size ≤ b) (v : Value) : Below w.heap.size w (w1.setCell ⟨b, j, none⟩ v) := h.setCell hb v
theorem own_setFar {w : World} {base : Nat} {e : TypeId} {size : Nat} {v : Value} {n b j : Nat} {xs : List Value} (h : w.ownsRow base e size v n xs) (hne : ∀ g, v.ownBlock = some g → g ≠ b) (u : Value) : (w.setCell ⟨b, j, none⟩ u).ownsRow base e size v n xs :=
  own_kept h ⟨rfl, rfl, rfl, by simp, fun k _ hk => heap_setCell_other w ⟨b, j, none⟩ k _ (fun e => hk (by simp [e]))⟩ (row := some b) (fun g r h1 h2 => by cases h2; exact hne g h1)
/-- A path in new memory that a call has made: its two lists are rows of their own. -/
def OwnP (w : World) (B : Nat) (G : Option Addr) (n c : Nat) (xs : List Int) (H : Option Addr) (m d : Nat) (ys : List Int) : Prop :=
  w.ownsRow B 3 1 (.slice G n c) n (xs.map (Value.int .i64)) ∧ w.ownsRow B 3 1 (.slice H m d) m (ys.map (Value.int .i64)) ∧ (∀ g r, (Value.slice G n c).ownBlock = some g → (Value.slice H m d).ownBlock = some r → g ≠ r)
theorem OwnP.below {w w' : World} {B : Nat} {G : Option Addr} {n c : Nat} {xs : List Int} {H : Option Addr} {m d : Nat} {ys : List Int} (h : OwnP w B G n c xs H m d ys) (hb : Below w.heap.size w w') : OwnP w' B G n c xs H m d ys :=
  ⟨own_belowAll h.1 hb, own_belowAll h.2.1 hb, h.2.2⟩
theorem OwnP.drewN {w : World} {B : Nat} {G : Option Addr} {n c : Nat} {xs : List Int} {H : Option Addr} {m d : Nat} {ys : List Int} (h : OwnP w B G n c xs H m d ys) (k : Nat) : OwnP (w.drewN k) B G n c xs H m d ys := h
theorem OwnP.base {w : World} {B B' : Nat} {G : Option Addr} {n c : Nat} {xs : List Int} {H : Option Addr} {m d : Nat} {ys : List Int} (h : OwnP w B G n c xs H m d ys) (hb : B' ≤ B) : OwnP w B' G n c xs H m d ys :=
  ⟨own_base h.1 hb, own_base h.2.1 hb, h.2.2⟩

theorem szIntS_yes (A : Option Addr) (n c : Nat) (l : Int) (w : World) (h0 : (n : Int) ≤ l) (hl : l ≤ 1048576) :
    Calls Try.prog 49 #[.slice A n c, .int .i64 l] w fun e w' => e = .returned (.int .i64 (l - n)) ∧ w = w' := by
  go_enter Try.func49, Try.ntmps49
  go_wp2_with fail
  go_ret
  exact ⟨rfl, rfl⟩
theorem szIntS_no (A : Option Addr) (n c : Nat) (l : Int) (w : World) (h0 : l < (n : Int)) (hl : 0 ≤ l) (hl2 : l ≤ 1048576) (hn : n ≤ maxLen) :
    Calls Try.prog 49 #[.slice A n c, .int .i64 l] w fun e w' => e = .returned (.int .i64 (-1)) ∧ w = w' := by
  unfold maxLen at hn
  go_enter Try.func49, Try.ntmps49
  go_wp2_with fail
  go_ret
  exact ⟨rfl, rfl⟩
set_option maxHeartbeats 1000000 in
theorem szPath_yes (A : Option Addr) (n c : Nat) (B : Option Addr) (m d : Nat) (l : Int) (w : World) (h0 : (n : Int) + m ≤ l) (hl : l ≤ 1048576) :
    Calls Try.prog 15 #[pv A n c B m d, .int .i64 l] w fun e w' => e = .returned (.int .i64 (l - n - m)) ∧ Below w.heap.size w w' := by
  go_enter Try.func15, Try.ntmps15
  go_wp2_with fail
  refine (szIntS_yes _ _ _ _ _ (by omega) (by omega)).mono ?_
  rintro e w1 ⟨rfl, rfl⟩
  go_wp2_with fail
  refine (szIntS_yes _ _ _ _ _ (by omega) (by omega)).mono ?_
  rintro e w1 ⟨rfl, rfl⟩
  go_wp2_with fail
  go_ret
  exact ⟨rfl, (Below.refl _ _).alloc (Nat.le_refl _) _⟩
set_option maxHeartbeats 1000000 in
theorem szPath_no (A : Option Addr) (n c : Nat) (B : Option Addr) (m d : Nat) (l : Int) (w : World) (h0 : l < (n : Int) + m) (hl0 : 0 ≤ l) (hl : l ≤ 1048576) (hn : n ≤ maxLen) (hm : m ≤ maxLen) :
    Calls Try.prog 15 #[pv A n c B m d, .int .i64 l] w fun e w' => e = .returned (.int .i64 (-1)) ∧ Below w.heap.size w w' := by
  have HN := Lib.hid hn
  have HM := Lib.hid hm
  clear hn hm
  by_cases h1 : l < n
  · go_enter Try.func15, Try.ntmps15
    go_wp2_with fail
    refine (szIntS_no _ _ _ _ _ h1 hl0 hl HN.out).mono ?_
    rintro e w1 ⟨rfl, rfl⟩
    go_wp2_with fail
    go_ret
    exact ⟨rfl, (Below.refl _ _).alloc (Nat.le_refl _) _⟩
  · go_enter Try.func15, Try.ntmps15
    go_wp2_with fail
    refine (szIntS_yes _ _ _ _ _ (by omega) (by omega)).mono ?_
    rintro e w1 ⟨rfl, rfl⟩
    go_wp2_with fail
    refine (szIntS_no _ _ _ _ _ (by omega) (by omega) (by omega) HM.out).mono ?_
    rintro e w1 ⟨rfl, rfl⟩
    go_wp2_with fail
    go_ret
    exact ⟨rfl, (Below.refl _ _).alloc (Nat.le_refl _) _⟩
set_option maxHeartbeats 2000000 in
theorem toPath_any (A : Option Addr) (n c : Nat) (B : Option Addr) (m d : Nat) (xs ys : List Int) (w : World) (hx : RdI w A n xs) (hy : RdI w B m ys) (hn : n ≤ 1099511627776) (hm : m ≤ 1099511627776) :
    Calls Try.prog 17 #[pv A n c B m d] w fun e w' => ∃ G H, e = .returned (pv G n n H m m) ∧ OwnP w' w.heap.size G n n xs H m m ys ∧ Below w.heap.size w w' := by
  have HX := Lib.hid hx
  have HY := Lib.hid hy
  clear hx hy
  have HB0 : Hid (Below w.heap.size w (((w.alloc (.cells #[.slice A n c, .slice B m d] 25)).alloc (.cells #[.slice none 0 0, .slice none 0 0] 28)).alloc (.cells #[.slice none 0 0, .slice none 0 0] 28))) :=
    (((Below.refl w.heap.size w).alloc (Nat.le_refl _) _).alloc (by simp) _).alloc (by simp; omega) _
  go_enter Try.func17, Try.ntmps17
  go_wp2_with fail
  refine (toIntS_any _ _ _ xs _ (Rd.below HX.out HB0.out) (by omega)).mono ?_
  rintro e w1 ⟨rfl, ho1, hb1⟩
  simp only [World.size_alloc] at ho1 hb1 ⊢
  have HA1 : Hid (Room2 w1 w.heap.size (.slice A n c) (.slice B m d)) := Room2.later (((room2_new w _ _ _).alloc _).alloc _) (by simpa using hb1)
  have HR1 : Hid (Room2 w1 (w.heap.size + 1) (.slice none 0 0) (.slice none 0 0)) := Room2.later (Room2.alloc (by have := room2_new (w.alloc (.cells #[.slice A n c, .slice B m d] 25)) (.slice none 0 0) (.slice none 0 0) 28; simpa using this) _) (by simpa using hb1)
  have HO1 : Hid (Room2 w1 (w.heap.size + 1 + 1) (.slice none 0 0) (.slice none 0 0)) := Room2.later (by have := room2_new ((w.alloc (.cells #[.slice A n c, .slice B m d] 25)).alloc (.cells #[.slice none 0 0, .slice none 0 0] 28)) (.slice none 0 0) (.slice none 0 0) 28; simpa using this) (by simpa using hb1)
  have HW1 : Hid (w1.ownsRow w.heap.size 3 1 (.slice (some ⟨w.heap.size + 1 + 1 + 1, 0, none⟩) n n) n (xs.map (Value.int .i64))) := own_base ho1 (by omega)
  have Hlt1 : Hid (w.heap.size + 1 + 1 + 1 < w1.heap.size) := (ho1.lt _ rfl).2
  have Hb1 : Hid (Below w.heap.size w w1) := HB0.out.trans (hb1.mono (by omega))
  clear ho1 hb1
  obtain ⟨a0, a1, _, _⟩ := HA1.out
  obtain ⟨r0, r1, fr0, fr1⟩ := HR1.out
  obtain ⟨o0, o1, fo0, fo1⟩ := HO1.out
  go_wp2_with fail
  have HA2 : Hid (Room2 (w1.setCell ⟨w.heap.size + 1 + 1, 0, none⟩ (.slice (some ⟨w.heap.size + 1 + 1 + 1, 0, none⟩) n n)) w.heap.size (.slice A n c) (.slice B m d)) := Room2.far HA1.out (by omega) _
  have HR2 : Hid (Room2 (w1.setCell ⟨w.heap.size + 1 + 1, 0, none⟩ (.slice (some ⟨w.heap.size + 1 + 1 + 1, 0, none⟩) n n)) (w.heap.size + 1) (.slice none 0 0) (.slice none 0 0)) := Room2.far HR1.out (by omega) _
  have HO2 : Hid (Room2 (w1.setCell ⟨w.heap.size + 1 + 1, 0, none⟩ (.slice (some ⟨w.heap.size + 1 + 1 + 1, 0, none⟩) n n)) (w.heap.size + 1 + 1) (.slice (some ⟨w.heap.size + 1 + 1 + 1, 0, none⟩) n n) (.slice none 0 0)) := Room2.set0 HO1.out _
  have HW2 : Hid ((w1.setCell ⟨w.heap.size + 1 + 1, 0, none⟩ (.slice (some ⟨w.heap.size + 1 + 1 + 1, 0, none⟩) n n)).ownsRow w.heap.size 3 1 (.slice (some ⟨w.heap.size + 1 + 1 + 1, 0, none⟩) n n) n (xs.map (Value.int .i64))) := own_setFar HW1.out (fun g hg => by simp [Value.ownBlock] at hg; omega) _
  have Hb2 : Hid (Below w.heap.size w (w1.setCell ⟨w.heap.size + 1 + 1, 0, none⟩ (.slice (some ⟨w.heap.size + 1 + 1 + 1, 0, none⟩) n n))) := below_set Hb1.out (by omega) _
  have Hlt2 : Hid (w.heap.size + 1 + 1 + 1 < (w1.setCell ⟨w.heap.size + 1 + 1, 0, none⟩ (.slice (some ⟨w.heap.size + 1 + 1 + 1, 0, none⟩) n n)).heap.size) := by unfold Hid; simpa using Hlt1.out
  generalize w1.setCell ⟨w.heap.size + 1 + 1, 0, none⟩ (.slice (some ⟨w.heap.size + 1 + 1 + 1, 0, none⟩) n n) = w2 at HA2 HR2 HO2 HW2 Hb2 Hlt2 ⊢
  clear a0 a1 r0 r1 o0 o1 fr0 fr1 fo0 fo1
  refine (toIntS_any _ _ _ ys _ (Rd.below HY.out Hb2.out) (by omega)).mono ?_
  rintro e w3 ⟨rfl, ho3, hb3⟩
  have HR3 := Lib.hid (HR2.out.later hb3)
  have HO3 := Lib.hid (HO2.out.later hb3)
  have HW3 := Lib.hid (own_belowAll HW2.out hb3)
  have HV3 : Hid (w3.ownsRow w.heap.size 3 1 (.slice (some ⟨w2.heap.size, 0, none⟩) m m) m (ys.map (Value.int .i64))) := own_base ho3 (by have := Hlt2.out; omega)
  have Hb3 := Lib.hid (below_seq Hb2.out hb3)
  have hlt3 := (ho3.lt _ rfl).2
  clear ho3 hb3
  have hlt2 := Hlt2.out
  obtain ⟨r0, r1, fr0, fr1⟩ := HR3.out
  obtain ⟨o0, o1, fo0, fo1⟩ := HO3.out
  go_wp2_with fail
  refine bodyPost_ret (v := pv (some ⟨w.heap.size + 1 + 1 + 1, 0, none⟩) n n (some ⟨w2.heap.size, 0, none⟩) m m) (by simp [results, Try.results17, go_sem, r0, r1]) rfl ?_
  refine ⟨_, _, rfl, ⟨?_, ?_, ?_⟩, ?_⟩
  · exact own_setFar (own_setFar (own_setFar HW3.out (fun g hg => by simp [Value.ownBlock] at hg; omega) _) (fun g hg => by simp [Value.ownBlock] at hg; omega) _) (fun g hg => by simp [Value.ownBlock] at hg; omega) _
  · exact own_setFar (own_setFar (own_setFar HV3.out (fun g hg => by simp [Value.ownBlock] at hg; omega) _) (fun g hg => by simp [Value.ownBlock] at hg; omega) _) (fun g hg => by simp [Value.ownBlock] at hg; omega) _
  · intro g r hg hr
    simp [Value.ownBlock] at hg hr
    omega
  · exact below_set (below_set (below_set Hb3.out (by omega) _) (by omega) _) (by omega) _
end Go.Proofs.Ytpfgjkgjeejghaa
