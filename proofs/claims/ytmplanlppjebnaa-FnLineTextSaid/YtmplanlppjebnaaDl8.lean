/-
  Contracts of the draws DrawLineOrder and DrawLineText: some list of at most thirteen moves with letters of one byte, and some section.
  Conditions: none.
-/
import Derived.Test.YtmplanlppjebnaaDl7
import Derived.Test.YtmplanlppjebnaaLn3
namespace Go.Proofs.Ytmplanlppjebnaa
open Go.RowKit
set_option linter.unusedVariables false
set_option linter.unusedSimpArgs false
attribute [local go_sem ↓] Go.wp_at_zero Go.wp_at_succ

theorem linP_lin {w w' : World} {n m : Nat} {e : Ending} (h : LinP n m w e w') (hn : n ≤ 5) (hm : m ≤ 5) : ∃ g k, e = .returned (.tuple #[.agg #[.slice (some ⟨g, 0, none⟩) n n, .slice (some ⟨k, 0, none⟩) m m], .bool true]) ∧ LinR w.heap.size w' (liv (some ⟨g, 0, none⟩) n n (some ⟨k, 0, none⟩) m m) ∧ Below w.heap.size w w' := by
  obtain ⟨g, k, rfl, h1, h2, hne, hb⟩ := h
  have g1 := (h1.lt g rfl).1
  have g2 := (h2.lt k rfl).1
  exact ⟨g, k, rfl, ⟨_, _, _, _, _, _, _, _, rfl, ⟨RdW.of_own h1, RdI.of_own h2, hn, hm, fun _ => ⟨_, _, rfl⟩⟩, fun a _ e => by cases e; exact g1, fun a _ e => by cases e; exact g2⟩, hb⟩
theorem LinR.grown {L g : Nat} {w w' : World} {v : Value} (h : LinR L w v) (hg : w.grownBy w' (some g)) (hgL : g < L) : LinR L w' v :=
  let ⟨A, n, c, B, m, d, xs, zs, e, l, q1, q2⟩ := h
  ⟨A, n, c, B, m, d, xs, zs, e, l.grown hg (fun a h0 e k => by have := q1 a h0 e; have := Option.some.inj k; omega) (fun a h0 e k => by have := q2 a h0 e; have := Option.some.inj k; omega), q1, q2⟩
set_option maxHeartbeats 2000000 in
theorem DrawLineOrder_any (A : Option Addr) (n c : Nat) (bs : List UInt8) (w : World) (hx : RdB w A n bs) (hl : n ≤ c) (hc : c ≤ maxLen) :
    Calls Try.prog 8 #[.slice A n c] w fun e w' => ∃ go k cap, e = .returned (.slice (some ⟨go, 0, none⟩) k cap) ∧ k ≤ 13 ∧ OutM w' w.heap.size go k cap ∧ Below w.heap.size w w' := by
  have HX := Lib.hid hx
  clear hx
  go_enter Try.func8, Try.ntmps8
  go_wp2_with fail
  refine (l6Open_any _ _ _ bs _ HX.out hl hc).mono ?_
  rintro e w1 ⟨rfl, hs1, hb1⟩
  have HS1 := Lib.hid hs1
  have HB1 := Lib.hid hb1
  clear hs1 hb1
  go_wp2_with fail
  refine (pick_any _ _ _ _ _ HS1.out (by omega) (by omega)).mono ?_
  rintro e w2 ⟨Y, rfl, hY, _, hs2, hg2⟩
  obtain ⟨hY0, hY4⟩ := hY (by omega)
  have HS2 := Lib.hid hs2
  have HB2 : Hid (Below w.heap.size w w2) := HB1.out.grown hg2 HB1.out.size (fun r e => by have := Option.some.inj e; omega)
  clear hs2 hg2 hY HS1 HB1
  go_wp2_with fail
  refine (pick_any _ _ _ _ _ HS2.out (by omega) (by omega)).mono ?_
  rintro e w3 ⟨Z, rfl, hZ, _, hs3, hg3⟩
  obtain ⟨hZ0, hZ5⟩ := hZ (by omega)
  have HS3 := Lib.hid hs3
  have HB3 : Hid (Below w.heap.size w w3) := HB2.out.grown hg3 HB2.out.size (fun r e => by have := Option.some.inj e; omega)
  clear hs3 hg3 hZ HS2 HB2
  obtain ⟨N, hN⟩ : ∃ N : Nat, (1 : Int) + Y = N := ⟨(1 + Y).toNat, by omega⟩
  obtain ⟨M, rfl⟩ : ∃ M : Nat, Z = M := ⟨Z.toNat, by omega⟩
  go_wp2_with fail
  refine (specLineNew_yes N M _ (by omega) (by omega) (by omega)).mono ?_
  intro e w4 hp4
  obtain ⟨g, k, rfl, hl4, hb4⟩ := linP_lin hp4 (by omega) (by omega)
  have HS4 := Lib.hid (HS3.out.below hb4 HS3.out.2.1)
  have HL4 := Lib.hid (hl4.base HS3.out.2.1)
  have HB4 := Lib.hid (below_seq HB3.out hb4)
  clear hp4 hl4 hb4 HS3 HB3
  go_wp2_with fail
  refine (l92Moves_any _ _ _ _ _ _ _ _ _ _ (HS4.out.alloc _) (by omega) (HL4.out.below (bl1 _ _))).mono ?_
  rintro e w5 ⟨go, k5, cap, p', rfl, hk, ho5, hp5, hs5, hg5⟩
  have hsz4 := HB4.out.size
  have HB5 : Hid (Below w.heap.size w w5) := (HB4.out.alloc HB4.out.size _).grown hg5 (by simp only [World.size_alloc]; omega) (fun r e => by have := Option.some.inj e; omega)
  have HO5 : Hid (OutM w5 w.heap.size go k5 cap) := by
    obtain ⟨ms, h1, h2⟩ := ho5
    exact ⟨ms, h1, own_base h2 (by simp only [World.size_alloc]; omega)⟩
  clear ho5 hs5 hg5
  go_wp2_with fail
  go_ret
  exact ⟨go, k5, cap, rfl, hk, HO5.out, HB5.out⟩
set_option maxHeartbeats 2000000 in
theorem DrawLineText_any (A : Option Addr) (n c : Nat) (bs : List UInt8) (w : World) (hx : RdB w A n bs) (hl : n ≤ c) (hc : c ≤ maxLen) :
    Calls Try.prog 24 #[.slice A n c] w fun e w' => ∃ go k cap K, e = .returned (.tuple #[.slice (some ⟨go, 0, none⟩) k cap, .int .i64 K]) ∧ k ≤ 13 ∧ OutM w' w.heap.size go k cap ∧ Below w.heap.size w w' := by
  have HX := Lib.hid hx
  clear hx
  go_enter Try.func24, Try.ntmps24
  go_wp2_with fail
  refine (l6Open_any _ _ _ bs _ HX.out hl hc).mono ?_
  rintro e w1 ⟨rfl, hs1, hb1⟩
  have HS1 := Lib.hid hs1
  have HB1 := Lib.hid hb1
  clear hs1 hb1
  go_wp2_with fail
  refine (pick_any _ _ _ _ _ HS1.out (by omega) (by omega)).mono ?_
  rintro e w2 ⟨Y, rfl, hY, _, hs2, hg2⟩
  obtain ⟨hY0, hY4⟩ := hY (by omega)
  have HS2 := Lib.hid hs2
  have HB2 : Hid (Below w.heap.size w w2) := HB1.out.grown hg2 HB1.out.size (fun r e => by have := Option.some.inj e; omega)
  clear hs2 hg2 hY HS1 HB1
  go_wp2_with fail
  refine (pick_any _ _ _ _ _ HS2.out (by omega) (by omega)).mono ?_
  rintro e w3 ⟨Z, rfl, hZ, _, hs3, hg3⟩
  obtain ⟨hZ0, hZ5⟩ := hZ (by omega)
  have HS3 := Lib.hid hs3
  have HB3 : Hid (Below w.heap.size w w3) := HB2.out.grown hg3 HB2.out.size (fun r e => by have := Option.some.inj e; omega)
  clear hs3 hg3 hZ HS2 HB2
  obtain ⟨N, hN⟩ : ∃ N : Nat, (1 : Int) + Y = N := ⟨(1 + Y).toNat, by omega⟩
  obtain ⟨M, rfl⟩ : ∃ M : Nat, Z = M := ⟨Z.toNat, by omega⟩
  go_wp2_with fail
  refine (specLineNew_yes N M _ (by omega) (by omega) (by omega)).mono ?_
  intro e w4 hp4
  obtain ⟨g, k, rfl, hl4, hb4⟩ := linP_lin hp4 (by omega) (by omega)
  have HS4 := Lib.hid (HS3.out.below hb4 HS3.out.2.1)
  have HL4 := Lib.hid (hl4.base HS3.out.2.1)
  have HB4 := Lib.hid (below_seq HB3.out hb4)
  clear hp4 hl4 hb4 HS3 HB3
  go_wp2_with fail
  refine (l92Moves_any _ _ _ _ _ _ _ _ _ _ (HS4.out.alloc _) (by omega) (HL4.out.below (bl1 _ _))).mono ?_
  rintro e w5 ⟨go, k5, cap, p', rfl, hk, ho5, hp5, hs5, hg5⟩
  have hsz4 := HB4.out.size
  have HB5 : Hid (Below w.heap.size w w5) := (HB4.out.alloc HB4.out.size _).grown hg5 (by simp only [World.size_alloc]; omega) (fun r e => by have := Option.some.inj e; omega)
  have HO5 : Hid (OutM w5 (w.heap.size + 1) go k5 cap) := by
    obtain ⟨ms, h1, h2⟩ := ho5
    have := hs5.2.1
    exact ⟨ms, h1, own_base h2 (by simp only [World.size_alloc]; have := HS4.out.2.1; omega)⟩
  have HS5 := Lib.hid hs5
  clear ho5 hs5 hg5 HB4 HL4 HS4
  go_wp2_with fail
  refine (pick_any _ _ _ _ _ HS5.out (by omega) (by omega)).mono ?_
  rintro e w6 ⟨Y6, rfl, hY6, _, hs6, hg6⟩
  obtain ⟨hY60, hY61⟩ := hY6 (by omega)
  have HS6 := Lib.hid hs6
  have HO6 := Lib.hid (HO5.out.grown hg6 (by omega))
  have HB6 : Hid (Below w.heap.size w w6) := HB5.out.grown hg6 HB5.out.size (fun r e => by have := Option.some.inj e; omega)
  clear hs6 hg6 hY6 HS5 HO5 HB5
  go_wp2_with fail
  refine (pick_any _ _ _ _ _ HS6.out (by omega) (by omega)).mono ?_
  rintro e w7 ⟨Z7, rfl, hZ7, _, hs7, hg7⟩
  obtain ⟨hZ70, hZ71⟩ := hZ7 (by omega)
  have HO7 := Lib.hid (HO6.out.grown hg7 (by omega))
  have HB7 : Hid (Below w.heap.size w w7) := HB6.out.grown hg7 HB6.out.size (fun r e => by have := Option.some.inj e; omega)
  clear hs7 hg7 hZ7 HS6 HO6 HB6
  go_wp2_with fail
  go_returns
  obtain ⟨ms, h1, h2⟩ := HO7.out
  exact ⟨go, k5, cap, _, rfl, hk, ⟨ms, h1, own_base h2 (by omega)⟩, HB7.out⟩
end Go.Proofs.Ytmplanlppjebnaa
