/-
  Contracts of the source of drawn numbers: l6Open, pick.
  Conditions: fewer than a million numbers have been drawn.
-/
import Derived.Test.YtmplanlppjebnaaProg
import Derived.Test.YtmplanlppjebnaaFrameKit
import Derived.IntWalk
namespace Go.Proofs.Ytmplanlppjebnaa
open Go.RowKit
set_option linter.unusedVariables false

/-- Block g is a source of numbers: the bytes that it reads, and how many numbers were drawn. -/
def Src (w : World) (L g p : Nat) : Prop :=
  g < L ∧ L ≤ w.heap.size ∧ ∃ (B : Option Addr) (len cap : Nat) (bs : List UInt8), w.heap[g]? = some (.cells #[.slice B len cap, .int .i64 p] 75 (0, 0)) ∧ RdB w B len bs ∧ len ≤ 2000 ∧ (0 < len → ∀ a, B = some a → a.block ≠ g ∧ a.block < L)

theorem RdB.at_ {w : World} {A : Option Addr} {n k : Nat} {bs : List UInt8} (h : RdB w A n bs) (hk : k < n) : ∃ b off x, A = some ⟨b, off, none⟩ ∧ x < 256 ∧ w.cell? ⟨b, off + k, none⟩ = some (.int .u8 (x : Nat)) := by
  obtain ⟨b, off, u, e, hu, hc⟩ := Rd.at_ h hk
  rw [List.getElem?_map] at hu
  obtain ⟨z, hz, rfl⟩ := Option.map_eq_some_iff.1 hu
  exact ⟨b, off, z.toNat, e, z.toNat_lt, hc⟩

/-- A number that was drawn. -/
def Picked (L g p : Nat) (n : Int) (w : World) (e : Ending) (w' : World) : Prop :=
  ∃ x : Int, e = .returned (.int .i64 x) ∧ (1 ≤ n → 0 ≤ x ∧ x < n) ∧ (n < 1 → x = 0) ∧ Src w' L g (p + 1) ∧ w.grownBy w' (some g)

theorem picked_fin {w : World} {L g p : Nat} {n : Int} {B : Option Addr} {len cap : Nat} {bs : List UInt8} (hL : g < L) (hLs : L ≤ w.heap.size) (hg : Hid (w.heap[g]? = some (.cells #[.slice B len cap, .int .i64 p] 75 (0, 0)))) (hB : Hid (RdB w B len bs)) (hlen : len ≤ 2000) (hne : Hid (0 < len → ∀ a, B = some a → a.block ≠ g ∧ a.block < L)) (m : Nat)
    (x : Int) (h1 : 1 ≤ n → 0 ≤ x ∧ x < n) (h2 : n < 1 → x = 0) : Picked L g p n w (.returned (.int .i64 x)) ((w.setCell ⟨g, 1, none⟩ (.int .i64 ((p : Int) + 1))).drewN m) := by
  refine ⟨x, rfl, h1, h2, ⟨hL, by simpa [World.drewN] using hLs, B, len, cap, bs, ?_, Rd.drewN (Rd.far (p := ⟨g, 1, none⟩) hB.out (fun h0 a e => (hne.out h0 a e).1) _) m, hlen, hne.out⟩, ⟨rfl, rfl, rfl, by simp [World.drewN], fun k _ hk => heap_setCell_other w ⟨g, 1, none⟩ k _ (fun e => hk (by simp [e]))⟩⟩
  have := heap_setCell_same w g 1 _ _ (.int .i64 ((p : Int) + 1)) hg.out
  simpa using this
theorem Src.grown {w w' : World} {L g p : Nat} {row : Option Nat} (h : Src w L g p) (hg : w.grownBy w' row) (hr : ∀ r, row = some r → L ≤ r) : Src w' L g p := by
  obtain ⟨hL, hLs, B, len, cap, bs, hb, hB, hlen, hne⟩ := h
  refine ⟨hL, Nat.le_trans hLs hg.size, B, len, cap, bs, (hg.block g (by omega) (fun e => by have := hr g e.symm; omega)).trans hb, Rd.grown hB hg (fun h0 a e e' => ?_), hlen, hne⟩
  have h1 := (hne h0 a e).2
  have h2 := hr _ e'.symm
  omega
theorem Src.below {w w' : World} {L g p B : Nat} (h : Src w L g p) (hb : Below B w w') (hB : L ≤ B) : Src w' L g p :=
  let ⟨hL, hLs, A, len, cap, bs, hg, hA, hlen, hne⟩ := h
  ⟨hL, Nat.le_trans hLs hb.size, A, len, cap, bs, (hb.block g (by omega)).trans hg, Rd.belowB hA hb (fun h0 a e => by have := (hne h0 a e).2; omega), hlen, hne⟩
theorem Src.alloc {w : World} {L g p : Nat} (h : Src w L g p) (o : Obj) : Src (w.alloc o) L g p :=
  h.grown (World.grownBy_alloc w o none) (fun r e => by cases e)
theorem Src.drewN {w : World} {L g p : Nat} (h : Src w L g p) (n : Nat) : Src (w.drewN n) L g p := h
theorem toNat_small (a : Nat) (ha : a < 4611686018427387904) : (BitVec.ofInt 64 (a : Int)).toNat = a := by
  rw [BitVec.ofInt_natCast, BitVec.toNat_ofNat]
  exact Nat.mod_eq_of_lt (by omega)
/-- '^' of two numbers that are not below 0 is not below 0. -/
theorem xor_nat (a b : Nat) (ha : a < 4611686018427387904) (hb : b < 4611686018427387904) : ∃ c : Nat, bits .xor .i64 (a : Int) (b : Int) = (c : Int) ∧ c < 4611686018427387904 := by
  refine ⟨a ^^^ b, ?_, ?_⟩
  · have hlt : a ^^^ b < 2 ^ 62 := Nat.xor_lt_two_pow (by omega) (by omega)
    show IntKind.i64.wrap ((BitVec.ofInt 64 (a : Int) ^^^ BitVec.ofInt 64 (b : Int)).toNat : Int) = _
    rw [BitVec.toNat_xor, toNat_small a ha, toNat_small b hb]
    exact IntWalk.i64_in _ (by omega)
  · have hlt : a ^^^ b < 2 ^ 62 := Nat.xor_lt_two_pow (by omega) (by omega)
    omega

set_option maxHeartbeats 2000000 in
theorem pick_any (L g p : Nat) (n : Int) (w : World) (hs : Src w L g p) (hp : p ≤ 1000000) (hn : n ≤ 1000000) :
    Calls Try.prog 26 #[.pointer (some ⟨g, 0, none⟩), .int .i64 n] w (Picked L g p n w) := by
  obtain ⟨hL, hLs, B, len, cap, bs, hg, hB, hlen, hne⟩ := hs
  have c0 : w.cell? ⟨g, 0, none⟩ = some (.slice B len cap) := by rw [cell_of_row w g 0 _ _ _ hg]; rfl
  have c1 : w.cell? ⟨g, 1, none⟩ = some (.int .i64 p) := by rw [cell_of_row w g 1 _ _ _ hg]; rfl
  have f1 : w.frozen? ⟨g, 1, none⟩ = false := frozen_of_row w g 1 _ _ hg
  have HG := Lib.hid hg
  have HB := Lib.hid hB
  have HNE := Lib.hid hne
  clear hg hB hne
  by_cases h1 : n < 1
  · go_enter Try.func26, Try.ntmps26
    go_wp2_with fail
    go_ret
    exact picked_fin hL hLs HG HB hlen HNE 0 0 (fun h => by omega) (fun _ => rfl)
  · have h1' : 1 ≤ n := by omega
    clear h1
    by_cases h0 : len = 0
    · subst h0
      go_enter Try.func26, Try.ntmps26
      go_wp2_with fail
      go_ret
      exact picked_fin hL hLs HG HB hlen HNE 0 0 (fun h => by omega) (fun _ => rfl)
    · have h0' : ((len : Int) == 0) = false := by simp; omega
      have hl1 : 1 ≤ len := by omega
      clear h0
      by_cases hk : p < len
      · obtain ⟨b, off, x, rfl, hx, hcx⟩ := RdB.at_ HB.out hk
        have hbg : b ≠ g := (HNE.out (by omega) _ rfl).1
        have hcx2 : (w.setCell ⟨g, 1, none⟩ (.int .i64 ((p : Int) + 1))).cell? ⟨b, off + p, none⟩ = some (.int .u8 (x : Nat)) := (World.cell?_setCell_other w ⟨g, 1, none⟩ ⟨b, off + p, none⟩ _ (by intro e; injection e with e1; exact hbg e1.symm)).trans hcx
        have HBG := Lib.hid hbg
        clear hbg hcx
        go_enter Try.func26, Try.ntmps26
        go_wp2_with fail
        go_ret
        exact picked_fin hL hLs HG HB hlen HNE 0 _ (fun h => ⟨Int.emod_nonneg _ (by omega), Int.emod_lt_of_pos _ (by omega)⟩) (fun h => by omega)
      · have hk' : len ≤ p := by omega
        clear hk
        obtain ⟨b, off, x, rfl, hx, hcx⟩ := RdB.at_ HB.out (Nat.mod_lt p hl1)
        obtain ⟨b', off', y, hbo, hy, hcy⟩ := RdB.at_ HB.out (Nat.mod_lt (p * 7 + 3) hl1)
        simp only [Option.some.injEq, Addr.mk.injEq, and_true] at hbo
        obtain ⟨rfl, rfl⟩ := hbo
        have hbg : b ≠ g := (HNE.out (by omega) _ rfl).1
        have hcx2 : (w.setCell ⟨g, 1, none⟩ (.int .i64 ((p : Int) + 1))).cell? ⟨b, off + p % len, none⟩ = some (.int .u8 (x : Nat)) := (World.cell?_setCell_other w ⟨g, 1, none⟩ ⟨b, off + p % len, none⟩ _ (by intro e; injection e with e1; exact hbg e1.symm)).trans hcx
        have hcy2 : (w.setCell ⟨g, 1, none⟩ (.int .i64 ((p : Int) + 1))).cell? ⟨b, off + (p * 7 + 3) % len, none⟩ = some (.int .u8 (y : Nat)) := (World.cell?_setCell_other w ⟨g, 1, none⟩ ⟨b, off + (p * 7 + 3) % len, none⟩ _ (by intro e; injection e with e1; exact hbg e1.symm)).trans hcy
        clear hbg hcx hcy
        obtain ⟨i, hi⟩ : ∃ i, i = p % len := ⟨_, rfl⟩
        obtain ⟨j, hj⟩ : ∃ j, j = (p * 7 + 3) % len := ⟨_, rfl⟩
        obtain ⟨q, hq⟩ : ∃ q, q = p / len := ⟨_, rfl⟩
        rw [← hi] at hcx2
        rw [← hj] at hcy2
        have hil : i < len := by rw [hi]; exact Nat.mod_lt _ hl1
        have hjl : j < len := by rw [hj]; exact Nat.mod_lt _ hl1
        have hqp : q ≤ p := by rw [hq]; exact Nat.div_le_self _ _
        have hn0 : ¬ len = 0 := by omega
        have hr1 : (p : Int).tmod (len : Int) = (i : Int) := by rw [hi, Int.tmod_eq_emod_of_nonneg (by omega)]; rfl
        have hr2 : ((p : Int) * 7 + 3).tmod (len : Int) = (j : Int) := by rw [hj, Int.tmod_eq_emod_of_nonneg (by omega)]; rfl
        have hr3 : (p : Int).tdiv (len : Int) = (q : Int) := by rw [hq, Int.tdiv_eq_ediv_of_nonneg (by omega)]; rfl
        have i0 : (0 : Int) ≤ i := by omega
        have i1 : (i : Int) < len := by omega
        have j0 : (0 : Int) ≤ j := by omega
        have j1 : (j : Int) < len := by omega
        clear hi hj hq
        have w1 : IntKind.i64.wrap ((x : Int) * 131) = (x : Int) * 131 := IntWalk.i64_in _ (by omega)
        have w2 : IntKind.i64.wrap ((y : Int) * 1117) = (y : Int) * 1117 := IntWalk.i64_in _ (by omega)
        have w3 : IntKind.i64.wrap ((p : Int) * 7) = (p : Int) * 7 := IntWalk.i64_in _ (by omega)
        have w4 : IntKind.i64.wrap ((p : Int) * 7 + 3) = (p : Int) * 7 + 3 := IntWalk.i64_in _ (by omega)
        have w5 : IntKind.i64.wrap ((p : Int) * 29) = (p : Int) * 29 := IntWalk.i64_in _ (by omega)
        have w6 : IntKind.i64.wrap ((q : Int) * 53) = (q : Int) * 53 := IntWalk.i64_in _ (by omega)
        have w7 : IntKind.i64.wrap ((x : Int) * 131 + (y : Int) * 1117) = (x : Int) * 131 + (y : Int) * 1117 := IntWalk.i64_in _ (by omega)
        have w8 : IntKind.i64.wrap ((x : Int) * 131 + (y : Int) * 1117 + (p : Int) * 29) = (x : Int) * 131 + (y : Int) * 1117 + (p : Int) * 29 := IntWalk.i64_in _ (by omega)
        have w9 : IntKind.i64.wrap ((x : Int) * 131 + (y : Int) * 1117 + (p : Int) * 29 + (q : Int) * 53) = (x : Int) * 131 + (y : Int) * 1117 + (p : Int) * 29 + (q : Int) * 53 := IntWalk.i64_in _ (by omega)
        have w10 : IntKind.i64.wrap (x : Int) = (x : Int) := IntWalk.i64_in _ (by omega)
        have w11 : IntKind.i64.wrap (y : Int) = (y : Int) := IntWalk.i64_in _ (by omega)
        have w12 : IntKind.i64.wrap (i : Int) = (i : Int) := IntWalk.i64_in _ (by omega)
        have w13 : IntKind.i64.wrap (j : Int) = (j : Int) := IntWalk.i64_in _ (by omega)
        have w14 : IntKind.i64.wrap (q : Int) = (q : Int) := IntWalk.i64_in _ (by omega)
        go_enter Try.func26, Try.ntmps26
        go_wp2_with fail
        go_quiet (fail)
        clear w1 w2 w3 w4 w5 w6 w7 w8 w9 w10 w11 w12 w13 w14 hr1 hr2 hr3
        obtain ⟨X, hX, hXb⟩ : ∃ X : Nat, (x : Int) * 131 + (y : Int) * 1117 + (p : Int) * 29 + (q : Int) * 53 = (X : Int) ∧ X < 4611686018427387904 := ⟨x * 131 + y * 1117 + p * 29 + q * 53, by omega, by omega⟩
        rw [hX]
        clear hX
        obtain ⟨c, hc, hcb⟩ := xor_nat X (X / 64) hXb (by omega)
        rw [show ((X / 64 : Nat) : Int) = (X : Int) / 64 from rfl] at hc
        go_wp2_with fail
        go_ret
        exact picked_fin hL hLs HG HB hlen HNE nq _ (fun h => ⟨Int.emod_nonneg _ (by omega), Int.emod_lt_of_pos _ (by omega)⟩) (fun h => by omega)

theorem RdB.take {w : World} {A : Option Addr} {n k : Nat} {bs : List UInt8} (h : RdB w A n bs) (hk : k ≤ n) : RdB w A k (bs.take k) := by
  have := Rd.take h hk
  rw [← List.map_take] at this
  exact this
theorem src_new {w : World} {A : Option Addr} {n c : Nat} {bs : List UInt8} (hx : RdB w A n bs) (hn : n ≤ 2000) : Src (w.alloc (.cells #[.slice A n c, .int .i64 0] 75)) (w.heap.size + 1) w.heap.size 0 := by
  refine ⟨by omega, by simp, A, n, c, bs, heap_alloc_new w _, Rd.alloc hx _, hn, fun h0 a e => ?_⟩
  obtain ⟨b, off, u, e', _, hc⟩ := Rd.at_ hx h0
  rw [e] at e'
  cases e'
  have := block_lt_of_cell hc
  have h2 : b < w.heap.size := this
  exact ⟨by show b ≠ w.heap.size; omega, by show b < w.heap.size + 1; omega⟩
set_option maxHeartbeats 1000000 in
theorem l6Open_any (A : Option Addr) (n c : Nat) (bs : List UInt8) (w : World) (hx : RdB w A n bs) (hl : n ≤ c) (hc : c ≤ maxLen) :
    Calls Try.prog 25 #[.slice A n c] w fun e w' => e = .returned (.pointer (some ⟨w.heap.size, 0, none⟩)) ∧ Src w' (w.heap.size + 1) w.heap.size 0 ∧ Below w.heap.size w w' := by
  have HX := Lib.hid hx
  clear hx
  unfold maxLen at hc
  by_cases h : (2000 : Int) < n
  · go_enter Try.func25, Try.ntmps25
    go_wp2_with fail
    go_ret
    exact ⟨rfl, src_new (HX.out.take (by omega)) (Nat.le_refl _), (Below.refl _ _).alloc (Nat.le_refl _) _⟩
  · have h' : (n : Int) ≤ 2000 := by omega
    clear h
    go_enter Try.func25, Try.ntmps25
    go_wp2_with fail
    go_ret
    exact ⟨rfl, src_new HX.out (by omega), (Below.refl _ _).alloc (Nat.le_refl _) _⟩
end Go.Proofs.Ytmplanlppjebnaa
