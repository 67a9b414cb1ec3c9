/-
  Contract: countTexts (the program's).
  Conditions: a state, at most 30 events, a map for each number of events, all of whose entries are good.
-/
import Derived.Test.YtlneedjhdnjnpaaManyPlain
import Derived.Test.YtlneedjhdnjnpaaMemo
import Derived.Test.YtlneedjhdnjnpaaChg
import Derived.DeepKeys4
import Derived.Deep.RegionHeld3
namespace Go.Proofs.Ytlneedjhdnjnpaa
open Go.RowKit
open Go.Maps (Keyed)
set_option linter.unusedVariables false
attribute [local go_sem ↓] Go.wp_at_zero Go.wp_at_succ run_eql_block run_neq_block

theorem Try.zeroInt (w : World) : (zeroValue 3).run Try.prog w = .ok (.int .i64 0) w := by kernel_rfl
theorem Try.keyedBlock : Keyed Try.prog 34 := Keyed.of_law (deep_law_laid (by kernel_rfl) (m := 2) (by omega) (of_decide_eq_true (by kernel_rfl)) (by kernel_rfl) (by rw [Try.underlying34]))
theorem key_st {q : Nat} (hq : q < 5) : ∃ l, keyOf Try.prog 34 (bv (Bk.nd q) (Bk.ins q) (Bk.off q)) = some l := by
  have : q = 0 ∨ q = 1 ∨ q = 2 ∨ q = 3 ∨ q = 4 := by omega
  rcases this with rfl | rfl | rfl | rfl | rfl <;> exact Option.isSome_iff_exists.1 (by kernel_rfl)
/-- A good answer: at a block, how many texts of m events can be done from it on. -/
def GoodM (m : Nat) (key val : Value) : Prop := ∃ q, q < 5 ∧ key = bv (Bk.nd q) (Bk.ins q) (Bk.off q) ∧ val = .int .i64 (Bk.many m q)
theorem Bk.st_inj {s t : Nat} (hs : s < 5) (ht : t < 5) (h : bv (nd s) (ins s) (off s) = bv (nd t) (ins t) (off t)) : s = t := by
  simp only [Value.agg.injEq, Array.mk.injEq, List.cons.injEq, Value.int.injEq, Value.bool.injEq, true_and, and_true] at h
  obtain ⟨h1, h2, h3⟩ := h
  have e1 := stOf_st hs
  rw [h1, h2, h3, stOf_st ht] at e1
  injection e1 with e1
  exact e1.symm
/-- What a look-up answers, in every later world that keeps the map. -/
theorem look_all {w : World} {m b q : Nat} (hq : q < 5) (h : Memo w Try.prog 34 b (GoodM m)) :
    (∀ w' : World, w'.heap[b]? = w.heap[b]? → (Instr.lookup 77 (.map (some b)) (bv (Bk.nd q) (Bk.ins q) (Bk.off q)) true).run Try.prog w' = .ok (.tuple #[.int .i64 0, .bool false]) w') ∨
    (∀ w' : World, w'.heap[b]? = w.heap[b]? → (Instr.lookup 77 (.map (some b)) (bv (Bk.nd q) (Bk.ins q) (Bk.off q)) true).run Try.prog w' = .ok (.tuple #[.int .i64 (Bk.many m q), .bool true]) w') := by
  obtain ⟨es, clock, hb, H⟩ := h
  obtain ⟨kl, hkey⟩ := key_st hq
  have ht : Try.prog.underlying 77 = some (.map 34 3) := Try.underlying77
  by_cases hex : ∃ x ∈ es.toList, x.key = bv (Bk.nd q) (Bk.ins q) (Bk.off q)
  · refine .inr fun w' hw => ?_
    rw [hb] at hw
    rcases Try.keyedBlock.find w' hkey es.toList (fun x hx => (H x hx).1) with ⟨h1, h2⟩ | ⟨j, e0, h1, h2, h3⟩
    · obtain ⟨x, hx, hk⟩ := hex
      exact absurd hk (h2 x hx)
    · obtain ⟨q', hq', hk', hv'⟩ := (H e0 (List.mem_of_getElem? h2)).2
      rw [h3] at hk'
      have := Bk.st_inj hq hq' hk'
      subst this
      simp [Instr.lookup, run_underlying ht, MapKept.run_getObj_map hw, Try.keyedBlock.check w' _ hkey, h1, Result.andThen, hv']
  · refine .inl fun w' hw => ?_
    rw [hb] at hw
    rcases Try.keyedBlock.find w' hkey es.toList (fun x hx => (H x hx).1) with ⟨h1, h2⟩ | ⟨j, e0, h1, h2, h3⟩
    · simp [Instr.lookup, run_underlying ht, MapKept.run_getObj_map hw, Try.keyedBlock.check w' _ hkey, h1, Result.andThen]
    · exact absurd ⟨e0, List.mem_of_getElem? h2, h3⟩ hex
/-- The maps of answers, one for each number of events. -/
structure Found (w : World) (fb : Nat) (bs : List Nat) : Prop where
  cell : ∀ m b, bs[m]? = some b → w.cell? ⟨fb, m, none⟩ = some (.map (some b))
  memo : ∀ m b, bs[m]? = some b → Memo w Try.prog 34 b (GoodM m)
/-- All blocks apart. -/
def Apart (fb : Nat) (bs : List Nat) : Prop := fb ∉ bs ∧ ∀ (i j b : Nat), bs[i]? = some b → bs[j]? = some b → i = j
theorem Found.below {w w' : World} {fb : Nat} {bs : List Nat} (h : Found w fb bs) (hb : Below w.heap.size w w') : Found w' fb bs :=
  ⟨fun m b hm => (hb.cell (block_lt_of_cell (h.cell m b hm))).trans (h.cell m b hm), fun m b hm => (h.memo m b hm).below hb⟩
theorem Found.stored {w w' : World} {fb : Nat} {bs : List Nat} (h : Found w fb bs) (hA : Apart fb bs) {m b : Nat} (hm : bs[m]? = some b) (hmem : Memo w' Try.prog 34 b (GoodM m)) (hg : w.grownBy w' (some b)) : Found w' fb bs := by
  refine ⟨fun i c hi => hg.cell (a := ⟨fb, i, none⟩) (h.cell i c hi) (fun e => ?_), fun i c hi => ?_⟩
  · cases e
    exact hA.1 (List.mem_of_getElem? hm)
  · by_cases e : i = m
    · subst e
      rw [hm] at hi
      injection hi with hi
      subst hi
      exact hmem
    · refine (h.memo i c hi).kept hg (fun e2 => e ?_)
      injection e2 with e2
      subst e2
      exact hA.2 i m _ hi hm
theorem chg_stored {w w1 w2 : World} {bs : List Nat} {m b : Nat} (h : Chg (fun k => k ∈ bs) w w1) (hm : bs[m]? = some b) (hg : w1.grownBy w2 (some b)) : Chg (fun k => k ∈ bs) w w2 :=
  h.trans (Chg.of_grown hg) (fun i _ hi => by cases hi; exact List.mem_of_getElem? hm)
theorem countTexts_zero (q : Nat) (fb N c : Nat) (w : World) :
    Calls Try.prog 64 #[stV q, .int .i64 0, .slice (some ⟨fb, 0, none⟩) N c] w fun e w' => e = .returned (.int .i64 1) ∧ w = w' := by
  go_enter Try.func64, Try.ntmps64
  go_wp2_with fail
  go_ret
  exact ⟨rfl, rfl⟩
/-- What is known where the answers for n events are. -/
def IHM (fb N c : Nat) (bs : List Nat) (n : Nat) : Prop := ∀ (q : Nat) (w : World), q < 5 → Found w fb bs →
    Calls Try.prog 64 #[stV q, .int .i64 n, .slice (some ⟨fb, 0, none⟩) N c] w fun e w' => e = .returned (.int .i64 (Bk.many n q)) ∧ Found w' fb bs ∧ Chg (fun k => k ∈ bs) w w'
theorem i64w {x : Int} (h0 : -9223372036854775808 ≤ x) (h1 : x ≤ 9223372036854775807) : IntKind.i64.wrap x = x := IntWalk.i64_in _ (by omega)

set_option maxRecDepth 100000 in
set_option maxHeartbeats 16000000 in
theorem countTexts_0 (fb N c : Nat) (bs : List Nat) (n : Nat) (hn : n + 1 < N) (hN : N ≤ 31) (hbl : bs.length = N) (hA : Apart fb bs) (ih : IHM fb N c bs n) (w : World) (hF : Found w fb bs) :
    Calls Try.prog 64 #[stV 0, .int .i64 ((n : Int) + 1), .slice (some ⟨fb, 0, none⟩) N c] w fun e w' => e = .returned (.int .i64 (Bk.many (n + 1) 0)) ∧ Found w' fb bs ∧ Chg (fun k => k ∈ bs) w w' := by
  obtain ⟨b, hb⟩ : ∃ b, bs[n + 1]? = some b := ⟨_, List.getElem?_eq_getElem (by omega)⟩
  have HB := Lib.hid hb
  have HA := Lib.hid hA
  have IH := Lib.hid ih
  have HF := Lib.hid hF
  have hc0 := hF.cell _ _ hb
  have hq5 : 0 < 5 := by omega
  have HQ := Lib.hid hq5
  have hn0 : ((n : Int) + 1 == 0) = false := by simp; omega
  have hin : (n : Int) + 1 < (N : Int) := by omega
  have hin0 : (0 : Int) ≤ (n : Int) + 1 := by omega
  obtain ⟨kl, hkey⟩ := key_st hq5
  have HKEY := Lib.hid hkey
  have hlook := look_all (q := 0) hq5 (hF.memo _ _ hb)
  clear hb hA ih hF hbl hkey
  rcases hlook with hl | hl
  · have HL := Lib.hid hl
    clear hl
    rw [show stV 0 = Value.iface 102 (.agg #[]) from rfl]
    go_enter Try.func64, Try.ntmps64
    go_wp2_with fail
    go_region_held3 (fun W => W.cell? ⟨fb, n + 1, none⟩ = some (.map (some b)))
      (first | exact hc0 | exact hc2)
      (first | (go_at_call 114; refine (normalB_any _).mono ?_; rintro e w2 ⟨rfl, hb2⟩; have hc2 := (hb2.cell (p := ⟨fb, n + 1, none⟩) (block_lt_of_cell hc0)).trans hc0; have hrun := HL.out w2 (hb2.block b (HF.out.memo _ _ HB.out).lt); have HF2 := Lib.hid (Found.below (w := w.drew) (by exact ⟨HF.out.cell, HF.out.memo⟩) hb2); have HC2 : Hid (Chg (fun k => k ∈ bs) w w2) := (Chg.refl _ _).drew.seq hb2; clear hb2))
    all_goals clear hc0 hc2
    all_goals go_wp2_with fail
    all_goals clear hrun
    all_goals go_loopw [9, 27] (fun v i wr => ∃ (k : Nat) (t : Int), k ≤ 7 ∧ i = .int .i64 k ∧ v = .int .i64 t ∧ Hid (t = Bk.cs (Bk.many n) 0 k) ∧ Hid (Found wr fb bs) ∧ Hid (Chg (fun k => k ∈ bs) w wr)) (fun _ i _ => 7 - (intOf i).toNat)
    case atStart => exact ⟨0, 0, by omega, rfl, rfl, rfl, HF2.out, HC2.out⟩
    case round =>
      clear HF HL
      obtain ⟨k, t, hk, rfl, rfl, Ht, HF, HC⟩ := hrel
      obtain ⟨ht0, ht1⟩ : 0 ≤ t ∧ t ≤ 2147483648 := by rw [Ht.out]; exact Bk.cs_small (by omega) (by omega)
      have : k = 0 ∨ k = 1 ∨ k = 2 ∨ k = 3 ∨ k = 4 ∨ k = 5 ∨ k = 6 ∨ k = 7 := by omega
      rcases this with h | h | h | h | h | h | h | h
      · obtain rfl : k = 0 := by omega
        clear h
        have HCE : Hid (Bk.ev[0]? = some 97) := rfl
        go_wp2_with fail
        refine (stateBehind_any 0 97 _ HQ.out (by omega)).mono ?_
        rintro e w3 ⟨rfl, rfl⟩
        cases hst2 : Bk.step 0 97 with
        | none =>
          have HT : Hid (t = Bk.cs (Bk.many n) 0 (0 + 1)) := by unfold Hid; rw [Bk.cs_no HCE.out hst2]; exact Ht.out
          rw [behV_none hst2]
          clear hst2
          go_wp2_with fail
          go_roundw
          case rel => exact ⟨0 + 1, t, by omega, rfl, rfl, HT.out, HF.out, HC.out⟩
          case measure => simp [intOf]
        | some u =>
          have hu5 : u < 5 := Bk.step_lt hst2
          obtain ⟨hm0, hm1⟩ := Bk.many_small (n := n) (s := u) (by omega)
          have HT : Hid (t + Bk.many n u = Bk.cs (Bk.many n) 0 (0 + 1)) := by unfold Hid; rw [Bk.cs_yes HCE.out hst2, ← Ht.out]
          rw [behV_some hst2]
          clear hst2
          have hwr := i64w (x := t + Bk.many n u) (by omega) (by omega)
          go_wp2_with fail
          refine (IH.out u _ hu5 HF.out).mono ?_
          rintro e w3 ⟨rfl, hf3, hc3⟩
          have HF3 := Lib.hid hf3
          have HC3 : Hid (Chg (fun k => k ∈ bs) w w3) := HC.out.trans hc3 (fun _ _ h => h)
          clear hf3 hc3
          go_wp2_with fail
          go_roundw
          case rel => exact ⟨0 + 1, _, by omega, rfl, rfl, HT.out, HF3.out, HC3.out⟩
          case measure => simp [intOf]
      · obtain rfl : k = 1 := by omega
        clear h
        have HCE : Hid (Bk.ev[1]? = some 99) := rfl
        go_wp2_with fail
        refine (stateBehind_any 0 99 _ HQ.out (by omega)).mono ?_
        rintro e w3 ⟨rfl, rfl⟩
        cases hst2 : Bk.step 0 99 with
        | none =>
          have HT : Hid (t = Bk.cs (Bk.many n) 0 (1 + 1)) := by unfold Hid; rw [Bk.cs_no HCE.out hst2]; exact Ht.out
          rw [behV_none hst2]
          clear hst2
          go_wp2_with fail
          go_roundw
          case rel => exact ⟨1 + 1, t, by omega, rfl, rfl, HT.out, HF.out, HC.out⟩
          case measure => simp [intOf]
        | some u =>
          have hu5 : u < 5 := Bk.step_lt hst2
          obtain ⟨hm0, hm1⟩ := Bk.many_small (n := n) (s := u) (by omega)
          have HT : Hid (t + Bk.many n u = Bk.cs (Bk.many n) 0 (1 + 1)) := by unfold Hid; rw [Bk.cs_yes HCE.out hst2, ← Ht.out]
          rw [behV_some hst2]
          clear hst2
          have hwr := i64w (x := t + Bk.many n u) (by omega) (by omega)
          go_wp2_with fail
          refine (IH.out u _ hu5 HF.out).mono ?_
          rintro e w3 ⟨rfl, hf3, hc3⟩
          have HF3 := Lib.hid hf3
          have HC3 : Hid (Chg (fun k => k ∈ bs) w w3) := HC.out.trans hc3 (fun _ _ h => h)
          clear hf3 hc3
          go_wp2_with fail
          go_roundw
          case rel => exact ⟨1 + 1, _, by omega, rfl, rfl, HT.out, HF3.out, HC3.out⟩
          case measure => simp [intOf]
      · obtain rfl : k = 2 := by omega
        clear h
        have HCE : Hid (Bk.ev[2]? = some 101) := rfl
        go_wp2_with fail
        refine (stateBehind_any 0 101 _ HQ.out (by omega)).mono ?_
        rintro e w3 ⟨rfl, rfl⟩
        cases hst2 : Bk.step 0 101 with
        | none =>
          have HT : Hid (t = Bk.cs (Bk.many n) 0 (2 + 1)) := by unfold Hid; rw [Bk.cs_no HCE.out hst2]; exact Ht.out
          rw [behV_none hst2]
          clear hst2
          go_wp2_with fail
          go_roundw
          case rel => exact ⟨2 + 1, t, by omega, rfl, rfl, HT.out, HF.out, HC.out⟩
          case measure => simp [intOf]
        | some u =>
          have hu5 : u < 5 := Bk.step_lt hst2
          obtain ⟨hm0, hm1⟩ := Bk.many_small (n := n) (s := u) (by omega)
          have HT : Hid (t + Bk.many n u = Bk.cs (Bk.many n) 0 (2 + 1)) := by unfold Hid; rw [Bk.cs_yes HCE.out hst2, ← Ht.out]
          rw [behV_some hst2]
          clear hst2
          have hwr := i64w (x := t + Bk.many n u) (by omega) (by omega)
          go_wp2_with fail
          refine (IH.out u _ hu5 HF.out).mono ?_
          rintro e w3 ⟨rfl, hf3, hc3⟩
          have HF3 := Lib.hid hf3
          have HC3 : Hid (Chg (fun k => k ∈ bs) w w3) := HC.out.trans hc3 (fun _ _ h => h)
          clear hf3 hc3
          go_wp2_with fail
          go_roundw
          case rel => exact ⟨2 + 1, _, by omega, rfl, rfl, HT.out, HF3.out, HC3.out⟩
          case measure => simp [intOf]
      · obtain rfl : k = 3 := by omega
        clear h
        have HCE : Hid (Bk.ev[3]? = some 102) := rfl
        go_wp2_with fail
        refine (stateBehind_any 0 102 _ HQ.out (by omega)).mono ?_
        rintro e w3 ⟨rfl, rfl⟩
        cases hst2 : Bk.step 0 102 with
        | none =>
          have HT : Hid (t = Bk.cs (Bk.many n) 0 (3 + 1)) := by unfold Hid; rw [Bk.cs_no HCE.out hst2]; exact Ht.out
          rw [behV_none hst2]
          clear hst2
          go_wp2_with fail
          go_roundw
          case rel => exact ⟨3 + 1, t, by omega, rfl, rfl, HT.out, HF.out, HC.out⟩
          case measure => simp [intOf]
        | some u =>
          have hu5 : u < 5 := Bk.step_lt hst2
          obtain ⟨hm0, hm1⟩ := Bk.many_small (n := n) (s := u) (by omega)
          have HT : Hid (t + Bk.many n u = Bk.cs (Bk.many n) 0 (3 + 1)) := by unfold Hid; rw [Bk.cs_yes HCE.out hst2, ← Ht.out]
          rw [behV_some hst2]
          clear hst2
          have hwr := i64w (x := t + Bk.many n u) (by omega) (by omega)
          go_wp2_with fail
          refine (IH.out u _ hu5 HF.out).mono ?_
          rintro e w3 ⟨rfl, hf3, hc3⟩
          have HF3 := Lib.hid hf3
          have HC3 : Hid (Chg (fun k => k ∈ bs) w w3) := HC.out.trans hc3 (fun _ _ h => h)
          clear hf3 hc3
          go_wp2_with fail
          go_roundw
          case rel => exact ⟨3 + 1, _, by omega, rfl, rfl, HT.out, HF3.out, HC3.out⟩
          case measure => simp [intOf]
      · obtain rfl : k = 4 := by omega
        clear h
        have HCE : Hid (Bk.ev[4]? = some 108) := rfl
        go_wp2_with fail
        refine (stateBehind_any 0 108 _ HQ.out (by omega)).mono ?_
        rintro e w3 ⟨rfl, rfl⟩
        cases hst2 : Bk.step 0 108 with
        | none =>
          have HT : Hid (t = Bk.cs (Bk.many n) 0 (4 + 1)) := by unfold Hid; rw [Bk.cs_no HCE.out hst2]; exact Ht.out
          rw [behV_none hst2]
          clear hst2
          go_wp2_with fail
          go_roundw
          case rel => exact ⟨4 + 1, t, by omega, rfl, rfl, HT.out, HF.out, HC.out⟩
          case measure => simp [intOf]
        | some u =>
          have hu5 : u < 5 := Bk.step_lt hst2
          obtain ⟨hm0, hm1⟩ := Bk.many_small (n := n) (s := u) (by omega)
          have HT : Hid (t + Bk.many n u = Bk.cs (Bk.many n) 0 (4 + 1)) := by unfold Hid; rw [Bk.cs_yes HCE.out hst2, ← Ht.out]
          rw [behV_some hst2]
          clear hst2
          have hwr := i64w (x := t + Bk.many n u) (by omega) (by omega)
          go_wp2_with fail
          refine (IH.out u _ hu5 HF.out).mono ?_
          rintro e w3 ⟨rfl, hf3, hc3⟩
          have HF3 := Lib.hid hf3
          have HC3 : Hid (Chg (fun k => k ∈ bs) w w3) := HC.out.trans hc3 (fun _ _ h => h)
          clear hf3 hc3
          go_wp2_with fail
          go_roundw
          case rel => exact ⟨4 + 1, _, by omega, rfl, rfl, HT.out, HF3.out, HC3.out⟩
          case measure => simp [intOf]
      · obtain rfl : k = 5 := by omega
        clear h
        have HCE : Hid (Bk.ev[5]? = some 111) := rfl
        go_wp2_with fail
        refine (stateBehind_any 0 111 _ HQ.out (by omega)).mono ?_
        rintro e w3 ⟨rfl, rfl⟩
        cases hst2 : Bk.step 0 111 with
        | none =>
          have HT : Hid (t = Bk.cs (Bk.many n) 0 (5 + 1)) := by unfold Hid; rw [Bk.cs_no HCE.out hst2]; exact Ht.out
          rw [behV_none hst2]
          clear hst2
          go_wp2_with fail
          go_roundw
          case rel => exact ⟨5 + 1, t, by omega, rfl, rfl, HT.out, HF.out, HC.out⟩
          case measure => simp [intOf]
        | some u =>
          have hu5 : u < 5 := Bk.step_lt hst2
          obtain ⟨hm0, hm1⟩ := Bk.many_small (n := n) (s := u) (by omega)
          have HT : Hid (t + Bk.many n u = Bk.cs (Bk.many n) 0 (5 + 1)) := by unfold Hid; rw [Bk.cs_yes HCE.out hst2, ← Ht.out]
          rw [behV_some hst2]
          clear hst2
          have hwr := i64w (x := t + Bk.many n u) (by omega) (by omega)
          go_wp2_with fail
          refine (IH.out u _ hu5 HF.out).mono ?_
          rintro e w3 ⟨rfl, hf3, hc3⟩
          have HF3 := Lib.hid hf3
          have HC3 : Hid (Chg (fun k => k ∈ bs) w w3) := HC.out.trans hc3 (fun _ _ h => h)
          clear hf3 hc3
          go_wp2_with fail
          go_roundw
          case rel => exact ⟨5 + 1, _, by omega, rfl, rfl, HT.out, HF3.out, HC3.out⟩
          case measure => simp [intOf]
      · obtain rfl : k = 6 := by omega
        clear h
        have HCE : Hid (Bk.ev[6]? = some 114) := rfl
        go_wp2_with fail
        refine (stateBehind_any 0 114 _ HQ.out (by omega)).mono ?_
        rintro e w3 ⟨rfl, rfl⟩
        cases hst2 : Bk.step 0 114 with
        | none =>
          have HT : Hid (t = Bk.cs (Bk.many n) 0 (6 + 1)) := by unfold Hid; rw [Bk.cs_no HCE.out hst2]; exact Ht.out
          rw [behV_none hst2]
          clear hst2
          go_wp2_with fail
          go_roundw
          case rel => exact ⟨6 + 1, t, by omega, rfl, rfl, HT.out, HF.out, HC.out⟩
          case measure => simp [intOf]
        | some u =>
          have hu5 : u < 5 := Bk.step_lt hst2
          obtain ⟨hm0, hm1⟩ := Bk.many_small (n := n) (s := u) (by omega)
          have HT : Hid (t + Bk.many n u = Bk.cs (Bk.many n) 0 (6 + 1)) := by unfold Hid; rw [Bk.cs_yes HCE.out hst2, ← Ht.out]
          rw [behV_some hst2]
          clear hst2
          have hwr := i64w (x := t + Bk.many n u) (by omega) (by omega)
          go_wp2_with fail
          refine (IH.out u _ hu5 HF.out).mono ?_
          rintro e w3 ⟨rfl, hf3, hc3⟩
          have HF3 := Lib.hid hf3
          have HC3 : Hid (Chg (fun k => k ∈ bs) w w3) := HC.out.trans hc3 (fun _ _ h => h)
          clear hf3 hc3
          go_wp2_with fail
          go_roundw
          case rel => exact ⟨6 + 1, _, by omega, rfl, rfl, HT.out, HF3.out, HC3.out⟩
          case measure => simp [intOf]
      · obtain rfl : k = 7 := by omega
        clear h
        have HE : Hid (Bk.many (n + 1) 0 = t) := Ht.out.symm
        have hgood : GoodM (n + 1) (bv (Bk.nd 0) (Bk.ins 0) (Bk.off 0)) (.int .i64 t) := ⟨0, HQ.out, rfl, by rw [HE.out]⟩
        have HGD := Lib.hid hgood
        clear hgood
        have hc0 := HF.out.cell _ _ HB.out
        go_wp2_with fail
        go_region_held3 (fun W => W.cell? ⟨fb, n + 1, none⟩ = some (.map (some b)))
          (first | exact hc0 | exact hc2 | exact HF4.out.cell _ _ HB.out)
          (first | (go_at_call 114; refine (normalB_any _).mono ?_; rintro e w2 ⟨rfl, hb2⟩; have hc2 := (hb2.cell (p := ⟨fb, n + 1, none⟩) (block_lt_of_cell hc0)).trans hc0; have HF2 := Lib.hid (Found.below (w := wr.drew) (by exact ⟨HF.out.cell, HF.out.memo⟩) hb2); have HC2 : Hid (Chg (fun k => k ∈ bs) w w2) := HC.out.drew.seq hb2; clear hb2; obtain ⟨w4, hrun4, hm4, hg4⟩ := (HF2.out.memo _ _ HB.out).store Try.keyedBlock Try.underlying77 HKEY.out HGD.out; have HF4 := Lib.hid (HF2.out.stored HA.out HB.out hm4 hg4); have HC4 := Lib.hid (chg_stored HC2.out HB.out hg4); clear hm4 hg4))
        all_goals go_wp2_with fail
        all_goals go_ret
        all_goals exact ⟨ret_int HE.out.symm, HF4.out, HC4.out⟩
  · have HL := Lib.hid hl
    clear hl
    rw [show stV 0 = Value.iface 102 (.agg #[]) from rfl]
    go_enter Try.func64, Try.ntmps64
    go_wp2_with fail
    go_region_held3 (fun W => W.cell? ⟨fb, n + 1, none⟩ = some (.map (some b)))
      (first | exact hc0 | exact hc2)
      (first | (go_at_call 114; refine (normalB_any _).mono ?_; rintro e w2 ⟨rfl, hb2⟩; have hc2 := (hb2.cell (p := ⟨fb, n + 1, none⟩) (block_lt_of_cell hc0)).trans hc0; have hrun := HL.out w2 (hb2.block b (HF.out.memo _ _ HB.out).lt); have HF2 := Lib.hid (Found.below (w := w.drew) (by exact ⟨HF.out.cell, HF.out.memo⟩) hb2); have HC2 : Hid (Chg (fun k => k ∈ bs) w w2) := (Chg.refl _ _).drew.seq hb2; clear hb2))
    all_goals go_wp2_with fail
    all_goals go_ret
    all_goals exact ⟨rfl, HF2.out, HC2.out⟩
set_option maxRecDepth 100000 in
set_option maxHeartbeats 16000000 in
theorem countTexts_1 (fb N c : Nat) (bs : List Nat) (n : Nat) (hn : n + 1 < N) (hN : N ≤ 31) (hbl : bs.length = N) (hA : Apart fb bs) (ih : IHM fb N c bs n) (w : World) (hF : Found w fb bs) :
    Calls Try.prog 64 #[stV 1, .int .i64 ((n : Int) + 1), .slice (some ⟨fb, 0, none⟩) N c] w fun e w' => e = .returned (.int .i64 (Bk.many (n + 1) 1)) ∧ Found w' fb bs ∧ Chg (fun k => k ∈ bs) w w' := by
  obtain ⟨b, hb⟩ : ∃ b, bs[n + 1]? = some b := ⟨_, List.getElem?_eq_getElem (by omega)⟩
  have HB := Lib.hid hb
  have HA := Lib.hid hA
  have IH := Lib.hid ih
  have HF := Lib.hid hF
  have hc0 := hF.cell _ _ hb
  have hq5 : 1 < 5 := by omega
  have HQ := Lib.hid hq5
  have hn0 : ((n : Int) + 1 == 0) = false := by simp; omega
  have hin : (n : Int) + 1 < (N : Int) := by omega
  have hin0 : (0 : Int) ≤ (n : Int) + 1 := by omega
  obtain ⟨kl, hkey⟩ := key_st hq5
  have HKEY := Lib.hid hkey
  have hlook := look_all (q := 1) hq5 (hF.memo _ _ hb)
  clear hb hA ih hF hbl hkey
  rcases hlook with hl | hl
  · have HL := Lib.hid hl
    clear hl
    rw [show stV 1 = Value.iface 103 (.agg #[]) from rfl]
    go_enter Try.func64, Try.ntmps64
    go_wp2_with fail
    go_region_held3 (fun W => W.cell? ⟨fb, n + 1, none⟩ = some (.map (some b)))
      (first | exact hc0 | exact hc2)
      (first | (go_at_call 115; refine (offeredB_any _).mono ?_; rintro e w2 ⟨rfl, hb2⟩; have hc2 := (hb2.cell (p := ⟨fb, n + 1, none⟩) (block_lt_of_cell hc0)).trans hc0; have hrun := HL.out w2 (hb2.block b (HF.out.memo _ _ HB.out).lt); have HF2 := Lib.hid (Found.below (w := w.drew) (by exact ⟨HF.out.cell, HF.out.memo⟩) hb2); have HC2 : Hid (Chg (fun k => k ∈ bs) w w2) := (Chg.refl _ _).drew.seq hb2; clear hb2))
    all_goals clear hc0 hc2
    all_goals go_wp2_with fail
    all_goals clear hrun
    all_goals go_loopw [9, 27] (fun v i wr => ∃ (k : Nat) (t : Int), k ≤ 7 ∧ i = .int .i64 k ∧ v = .int .i64 t ∧ Hid (t = Bk.cs (Bk.many n) 1 k) ∧ Hid (Found wr fb bs) ∧ Hid (Chg (fun k => k ∈ bs) w wr)) (fun _ i _ => 7 - (intOf i).toNat)
    case atStart => exact ⟨0, 0, by omega, rfl, rfl, rfl, HF2.out, HC2.out⟩
    case round =>
      clear HF HL
      obtain ⟨k, t, hk, rfl, rfl, Ht, HF, HC⟩ := hrel
      obtain ⟨ht0, ht1⟩ : 0 ≤ t ∧ t ≤ 2147483648 := by rw [Ht.out]; exact Bk.cs_small (by omega) (by omega)
      have : k = 0 ∨ k = 1 ∨ k = 2 ∨ k = 3 ∨ k = 4 ∨ k = 5 ∨ k = 6 ∨ k = 7 := by omega
      rcases this with h | h | h | h | h | h | h | h
      · obtain rfl : k = 0 := by omega
        clear h
        have HCE : Hid (Bk.ev[0]? = some 97) := rfl
        go_wp2_with fail
        refine (stateBehind_any 1 97 _ HQ.out (by omega)).mono ?_
        rintro e w3 ⟨rfl, rfl⟩
        cases hst2 : Bk.step 1 97 with
        | none =>
          have HT : Hid (t = Bk.cs (Bk.many n) 1 (0 + 1)) := by unfold Hid; rw [Bk.cs_no HCE.out hst2]; exact Ht.out
          rw [behV_none hst2]
          clear hst2
          go_wp2_with fail
          go_roundw
          case rel => exact ⟨0 + 1, t, by omega, rfl, rfl, HT.out, HF.out, HC.out⟩
          case measure => simp [intOf]
        | some u =>
          have hu5 : u < 5 := Bk.step_lt hst2
          obtain ⟨hm0, hm1⟩ := Bk.many_small (n := n) (s := u) (by omega)
          have HT : Hid (t + Bk.many n u = Bk.cs (Bk.many n) 1 (0 + 1)) := by unfold Hid; rw [Bk.cs_yes HCE.out hst2, ← Ht.out]
          rw [behV_some hst2]
          clear hst2
          have hwr := i64w (x := t + Bk.many n u) (by omega) (by omega)
          go_wp2_with fail
          refine (IH.out u _ hu5 HF.out).mono ?_
          rintro e w3 ⟨rfl, hf3, hc3⟩
          have HF3 := Lib.hid hf3
          have HC3 : Hid (Chg (fun k => k ∈ bs) w w3) := HC.out.trans hc3 (fun _ _ h => h)
          clear hf3 hc3
          go_wp2_with fail
          go_roundw
          case rel => exact ⟨0 + 1, _, by omega, rfl, rfl, HT.out, HF3.out, HC3.out⟩
          case measure => simp [intOf]
      · obtain rfl : k = 1 := by omega
        clear h
        have HCE : Hid (Bk.ev[1]? = some 99) := rfl
        go_wp2_with fail
        refine (stateBehind_any 1 99 _ HQ.out (by omega)).mono ?_
        rintro e w3 ⟨rfl, rfl⟩
        cases hst2 : Bk.step 1 99 with
        | none =>
          have HT : Hid (t = Bk.cs (Bk.many n) 1 (1 + 1)) := by unfold Hid; rw [Bk.cs_no HCE.out hst2]; exact Ht.out
          rw [behV_none hst2]
          clear hst2
          go_wp2_with fail
          go_roundw
          case rel => exact ⟨1 + 1, t, by omega, rfl, rfl, HT.out, HF.out, HC.out⟩
          case measure => simp [intOf]
        | some u =>
          have hu5 : u < 5 := Bk.step_lt hst2
          obtain ⟨hm0, hm1⟩ := Bk.many_small (n := n) (s := u) (by omega)
          have HT : Hid (t + Bk.many n u = Bk.cs (Bk.many n) 1 (1 + 1)) := by unfold Hid; rw [Bk.cs_yes HCE.out hst2, ← Ht.out]
          rw [behV_some hst2]
          clear hst2
          have hwr := i64w (x := t + Bk.many n u) (by omega) (by omega)
          go_wp2_with fail
          refine (IH.out u _ hu5 HF.out).mono ?_
          rintro e w3 ⟨rfl, hf3, hc3⟩
          have HF3 := Lib.hid hf3
          have HC3 : Hid (Chg (fun k => k ∈ bs) w w3) := HC.out.trans hc3 (fun _ _ h => h)
          clear hf3 hc3
          go_wp2_with fail
          go_roundw
          case rel => exact ⟨1 + 1, _, by omega, rfl, rfl, HT.out, HF3.out, HC3.out⟩
          case measure => simp [intOf]
      · obtain rfl : k = 2 := by omega
        clear h
        have HCE : Hid (Bk.ev[2]? = some 101) := rfl
        go_wp2_with fail
        refine (stateBehind_any 1 101 _ HQ.out (by omega)).mono ?_
        rintro e w3 ⟨rfl, rfl⟩
        cases hst2 : Bk.step 1 101 with
        | none =>
          have HT : Hid (t = Bk.cs (Bk.many n) 1 (2 + 1)) := by unfold Hid; rw [Bk.cs_no HCE.out hst2]; exact Ht.out
          rw [behV_none hst2]
          clear hst2
          go_wp2_with fail
          go_roundw
          case rel => exact ⟨2 + 1, t, by omega, rfl, rfl, HT.out, HF.out, HC.out⟩
          case measure => simp [intOf]
        | some u =>
          have hu5 : u < 5 := Bk.step_lt hst2
          obtain ⟨hm0, hm1⟩ := Bk.many_small (n := n) (s := u) (by omega)
          have HT : Hid (t + Bk.many n u = Bk.cs (Bk.many n) 1 (2 + 1)) := by unfold Hid; rw [Bk.cs_yes HCE.out hst2, ← Ht.out]
          rw [behV_some hst2]
          clear hst2
          have hwr := i64w (x := t + Bk.many n u) (by omega) (by omega)
          go_wp2_with fail
          refine (IH.out u _ hu5 HF.out).mono ?_
          rintro e w3 ⟨rfl, hf3, hc3⟩
          have HF3 := Lib.hid hf3
          have HC3 : Hid (Chg (fun k => k ∈ bs) w w3) := HC.out.trans hc3 (fun _ _ h => h)
          clear hf3 hc3
          go_wp2_with fail
          go_roundw
          case rel => exact ⟨2 + 1, _, by omega, rfl, rfl, HT.out, HF3.out, HC3.out⟩
          case measure => simp [intOf]
      · obtain rfl : k = 3 := by omega
        clear h
        have HCE : Hid (Bk.ev[3]? = some 102) := rfl
        go_wp2_with fail
        refine (stateBehind_any 1 102 _ HQ.out (by omega)).mono ?_
        rintro e w3 ⟨rfl, rfl⟩
        cases hst2 : Bk.step 1 102 with
        | none =>
          have HT : Hid (t = Bk.cs (Bk.many n) 1 (3 + 1)) := by unfold Hid; rw [Bk.cs_no HCE.out hst2]; exact Ht.out
          rw [behV_none hst2]
          clear hst2
          go_wp2_with fail
          go_roundw
          case rel => exact ⟨3 + 1, t, by omega, rfl, rfl, HT.out, HF.out, HC.out⟩
          case measure => simp [intOf]
        | some u =>
          have hu5 : u < 5 := Bk.step_lt hst2
          obtain ⟨hm0, hm1⟩ := Bk.many_small (n := n) (s := u) (by omega)
          have HT : Hid (t + Bk.many n u = Bk.cs (Bk.many n) 1 (3 + 1)) := by unfold Hid; rw [Bk.cs_yes HCE.out hst2, ← Ht.out]
          rw [behV_some hst2]
          clear hst2
          have hwr := i64w (x := t + Bk.many n u) (by omega) (by omega)
          go_wp2_with fail
          refine (IH.out u _ hu5 HF.out).mono ?_
          rintro e w3 ⟨rfl, hf3, hc3⟩
          have HF3 := Lib.hid hf3
          have HC3 : Hid (Chg (fun k => k ∈ bs) w w3) := HC.out.trans hc3 (fun _ _ h => h)
          clear hf3 hc3
          go_wp2_with fail
          go_roundw
          case rel => exact ⟨3 + 1, _, by omega, rfl, rfl, HT.out, HF3.out, HC3.out⟩
          case measure => simp [intOf]
      · obtain rfl : k = 4 := by omega
        clear h
        have HCE : Hid (Bk.ev[4]? = some 108) := rfl
        go_wp2_with fail
        refine (stateBehind_any 1 108 _ HQ.out (by omega)).mono ?_
        rintro e w3 ⟨rfl, rfl⟩
        cases hst2 : Bk.step 1 108 with
        | none =>
          have HT : Hid (t = Bk.cs (Bk.many n) 1 (4 + 1)) := by unfold Hid; rw [Bk.cs_no HCE.out hst2]; exact Ht.out
          rw [behV_none hst2]
          clear hst2
          go_wp2_with fail
          go_roundw
          case rel => exact ⟨4 + 1, t, by omega, rfl, rfl, HT.out, HF.out, HC.out⟩
          case measure => simp [intOf]
        | some u =>
          have hu5 : u < 5 := Bk.step_lt hst2
          obtain ⟨hm0, hm1⟩ := Bk.many_small (n := n) (s := u) (by omega)
          have HT : Hid (t + Bk.many n u = Bk.cs (Bk.many n) 1 (4 + 1)) := by unfold Hid; rw [Bk.cs_yes HCE.out hst2, ← Ht.out]
          rw [behV_some hst2]
          clear hst2
          have hwr := i64w (x := t + Bk.many n u) (by omega) (by omega)
          go_wp2_with fail
          refine (IH.out u _ hu5 HF.out).mono ?_
          rintro e w3 ⟨rfl, hf3, hc3⟩
          have HF3 := Lib.hid hf3
          have HC3 : Hid (Chg (fun k => k ∈ bs) w w3) := HC.out.trans hc3 (fun _ _ h => h)
          clear hf3 hc3
          go_wp2_with fail
          go_roundw
          case rel => exact ⟨4 + 1, _, by omega, rfl, rfl, HT.out, HF3.out, HC3.out⟩
          case measure => simp [intOf]
      · obtain rfl : k = 5 := by omega
        clear h
        have HCE : Hid (Bk.ev[5]? = some 111) := rfl
        go_wp2_with fail
        refine (stateBehind_any 1 111 _ HQ.out (by omega)).mono ?_
        rintro e w3 ⟨rfl, rfl⟩
        cases hst2 : Bk.step 1 111 with
        | none =>
          have HT : Hid (t = Bk.cs (Bk.many n) 1 (5 + 1)) := by unfold Hid; rw [Bk.cs_no HCE.out hst2]; exact Ht.out
          rw [behV_none hst2]
          clear hst2
          go_wp2_with fail
          go_roundw
          case rel => exact ⟨5 + 1, t, by omega, rfl, rfl, HT.out, HF.out, HC.out⟩
          case measure => simp [intOf]
        | some u =>
          have hu5 : u < 5 := Bk.step_lt hst2
          obtain ⟨hm0, hm1⟩ := Bk.many_small (n := n) (s := u) (by omega)
          have HT : Hid (t + Bk.many n u = Bk.cs (Bk.many n) 1 (5 + 1)) := by unfold Hid; rw [Bk.cs_yes HCE.out hst2, ← Ht.out]
          rw [behV_some hst2]
          clear hst2
          have hwr := i64w (x := t + Bk.many n u) (by omega) (by omega)
          go_wp2_with fail
          refine (IH.out u _ hu5 HF.out).mono ?_
          rintro e w3 ⟨rfl, hf3, hc3⟩
          have HF3 := Lib.hid hf3
          have HC3 : Hid (Chg (fun k => k ∈ bs) w w3) := HC.out.trans hc3 (fun _ _ h => h)
          clear hf3 hc3
          go_wp2_with fail
          go_roundw
          case rel => exact ⟨5 + 1, _, by omega, rfl, rfl, HT.out, HF3.out, HC3.out⟩
          case measure => simp [intOf]
      · obtain rfl : k = 6 := by omega
        clear h
        have HCE : Hid (Bk.ev[6]? = some 114) := rfl
        go_wp2_with fail
        refine (stateBehind_any 1 114 _ HQ.out (by omega)).mono ?_
        rintro e w3 ⟨rfl, rfl⟩
        cases hst2 : Bk.step 1 114 with
        | none =>
          have HT : Hid (t = Bk.cs (Bk.many n) 1 (6 + 1)) := by unfold Hid; rw [Bk.cs_no HCE.out hst2]; exact Ht.out
          rw [behV_none hst2]
          clear hst2
          go_wp2_with fail
          go_roundw
          case rel => exact ⟨6 + 1, t, by omega, rfl, rfl, HT.out, HF.out, HC.out⟩
          case measure => simp [intOf]
        | some u =>
          have hu5 : u < 5 := Bk.step_lt hst2
          obtain ⟨hm0, hm1⟩ := Bk.many_small (n := n) (s := u) (by omega)
          have HT : Hid (t + Bk.many n u = Bk.cs (Bk.many n) 1 (6 + 1)) := by unfold Hid; rw [Bk.cs_yes HCE.out hst2, ← Ht.out]
          rw [behV_some hst2]
          clear hst2
          have hwr := i64w (x := t + Bk.many n u) (by omega) (by omega)
          go_wp2_with fail
          refine (IH.out u _ hu5 HF.out).mono ?_
          rintro e w3 ⟨rfl, hf3, hc3⟩
          have HF3 := Lib.hid hf3
          have HC3 : Hid (Chg (fun k => k ∈ bs) w w3) := HC.out.trans hc3 (fun _ _ h => h)
          clear hf3 hc3
          go_wp2_with fail
          go_roundw
          case rel => exact ⟨6 + 1, _, by omega, rfl, rfl, HT.out, HF3.out, HC3.out⟩
          case measure => simp [intOf]
      · obtain rfl : k = 7 := by omega
        clear h
        have HE : Hid (Bk.many (n + 1) 1 = t) := Ht.out.symm
        have hgood : GoodM (n + 1) (bv (Bk.nd 1) (Bk.ins 1) (Bk.off 1)) (.int .i64 t) := ⟨1, HQ.out, rfl, by rw [HE.out]⟩
        have HGD := Lib.hid hgood
        clear hgood
        have hc0 := HF.out.cell _ _ HB.out
        go_wp2_with fail
        go_region_held3 (fun W => W.cell? ⟨fb, n + 1, none⟩ = some (.map (some b)))
          (first | exact hc0 | exact hc2 | exact HF4.out.cell _ _ HB.out)
          (first | (go_at_call 115; refine (offeredB_any _).mono ?_; rintro e w2 ⟨rfl, hb2⟩; have hc2 := (hb2.cell (p := ⟨fb, n + 1, none⟩) (block_lt_of_cell hc0)).trans hc0; have HF2 := Lib.hid (Found.below (w := wr.drew) (by exact ⟨HF.out.cell, HF.out.memo⟩) hb2); have HC2 : Hid (Chg (fun k => k ∈ bs) w w2) := HC.out.drew.seq hb2; clear hb2; obtain ⟨w4, hrun4, hm4, hg4⟩ := (HF2.out.memo _ _ HB.out).store Try.keyedBlock Try.underlying77 HKEY.out HGD.out; have HF4 := Lib.hid (HF2.out.stored HA.out HB.out hm4 hg4); have HC4 := Lib.hid (chg_stored HC2.out HB.out hg4); clear hm4 hg4))
        all_goals go_wp2_with fail
        all_goals go_ret
        all_goals exact ⟨ret_int HE.out.symm, HF4.out, HC4.out⟩
  · have HL := Lib.hid hl
    clear hl
    rw [show stV 1 = Value.iface 103 (.agg #[]) from rfl]
    go_enter Try.func64, Try.ntmps64
    go_wp2_with fail
    go_region_held3 (fun W => W.cell? ⟨fb, n + 1, none⟩ = some (.map (some b)))
      (first | exact hc0 | exact hc2)
      (first | (go_at_call 115; refine (offeredB_any _).mono ?_; rintro e w2 ⟨rfl, hb2⟩; have hc2 := (hb2.cell (p := ⟨fb, n + 1, none⟩) (block_lt_of_cell hc0)).trans hc0; have hrun := HL.out w2 (hb2.block b (HF.out.memo _ _ HB.out).lt); have HF2 := Lib.hid (Found.below (w := w.drew) (by exact ⟨HF.out.cell, HF.out.memo⟩) hb2); have HC2 : Hid (Chg (fun k => k ∈ bs) w w2) := (Chg.refl _ _).drew.seq hb2; clear hb2))
    all_goals go_wp2_with fail
    all_goals go_ret
    all_goals exact ⟨rfl, HF2.out, HC2.out⟩
set_option maxRecDepth 100000 in
set_option maxHeartbeats 16000000 in
theorem countTexts_2 (fb N c : Nat) (bs : List Nat) (n : Nat) (hn : n + 1 < N) (hN : N ≤ 31) (hbl : bs.length = N) (hA : Apart fb bs) (ih : IHM fb N c bs n) (w : World) (hF : Found w fb bs) :
    Calls Try.prog 64 #[stV 2, .int .i64 ((n : Int) + 1), .slice (some ⟨fb, 0, none⟩) N c] w fun e w' => e = .returned (.int .i64 (Bk.many (n + 1) 2)) ∧ Found w' fb bs ∧ Chg (fun k => k ∈ bs) w w' := by
  obtain ⟨b, hb⟩ : ∃ b, bs[n + 1]? = some b := ⟨_, List.getElem?_eq_getElem (by omega)⟩
  have HB := Lib.hid hb
  have HA := Lib.hid hA
  have IH := Lib.hid ih
  have HF := Lib.hid hF
  have hc0 := hF.cell _ _ hb
  have hq5 : 2 < 5 := by omega
  have HQ := Lib.hid hq5
  have hn0 : ((n : Int) + 1 == 0) = false := by simp; omega
  have hin : (n : Int) + 1 < (N : Int) := by omega
  have hin0 : (0 : Int) ≤ (n : Int) + 1 := by omega
  obtain ⟨kl, hkey⟩ := key_st hq5
  have HKEY := Lib.hid hkey
  have hlook := look_all (q := 2) hq5 (hF.memo _ _ hb)
  clear hb hA ih hF hbl hkey
  rcases hlook with hl | hl
  · have HL := Lib.hid hl
    clear hl
    rw [show stV 2 = Value.iface 104 (.agg #[]) from rfl]
    go_enter Try.func64, Try.ntmps64
    go_wp2_with fail
    go_region_held3 (fun W => W.cell? ⟨fb, n + 1, none⟩ = some (.map (some b)))
      (first | exact hc0 | exact hc2)
      (first | (go_at_call 116; refine (clearB_any _).mono ?_; rintro e w2 ⟨rfl, hb2⟩; have hc2 := (hb2.cell (p := ⟨fb, n + 1, none⟩) (block_lt_of_cell hc0)).trans hc0; have hrun := HL.out w2 (hb2.block b (HF.out.memo _ _ HB.out).lt); have HF2 := Lib.hid (Found.below (w := w.drew) (by exact ⟨HF.out.cell, HF.out.memo⟩) hb2); have HC2 : Hid (Chg (fun k => k ∈ bs) w w2) := (Chg.refl _ _).drew.seq hb2; clear hb2))
    all_goals clear hc0 hc2
    all_goals go_wp2_with fail
    all_goals clear hrun
    all_goals go_loopw [9, 27] (fun v i wr => ∃ (k : Nat) (t : Int), k ≤ 7 ∧ i = .int .i64 k ∧ v = .int .i64 t ∧ Hid (t = Bk.cs (Bk.many n) 2 k) ∧ Hid (Found wr fb bs) ∧ Hid (Chg (fun k => k ∈ bs) w wr)) (fun _ i _ => 7 - (intOf i).toNat)
    case atStart => exact ⟨0, 0, by omega, rfl, rfl, rfl, HF2.out, HC2.out⟩
    case round =>
      clear HF HL
      obtain ⟨k, t, hk, rfl, rfl, Ht, HF, HC⟩ := hrel
      obtain ⟨ht0, ht1⟩ : 0 ≤ t ∧ t ≤ 2147483648 := by rw [Ht.out]; exact Bk.cs_small (by omega) (by omega)
      have : k = 0 ∨ k = 1 ∨ k = 2 ∨ k = 3 ∨ k = 4 ∨ k = 5 ∨ k = 6 ∨ k = 7 := by omega
      rcases this with h | h | h | h | h | h | h | h
      · obtain rfl : k = 0 := by omega
        clear h
        have HCE : Hid (Bk.ev[0]? = some 97) := rfl
        go_wp2_with fail
        refine (stateBehind_any 2 97 _ HQ.out (by omega)).mono ?_
        rintro e w3 ⟨rfl, rfl⟩
        cases hst2 : Bk.step 2 97 with
        | none =>
          have HT : Hid (t = Bk.cs (Bk.many n) 2 (0 + 1)) := by unfold Hid; rw [Bk.cs_no HCE.out hst2]; exact Ht.out
          rw [behV_none hst2]
          clear hst2
          go_wp2_with fail
          go_roundw
          case rel => exact ⟨0 + 1, t, by omega, rfl, rfl, HT.out, HF.out, HC.out⟩
          case measure => simp [intOf]
        | some u =>
          have hu5 : u < 5 := Bk.step_lt hst2
          obtain ⟨hm0, hm1⟩ := Bk.many_small (n := n) (s := u) (by omega)
          have HT : Hid (t + Bk.many n u = Bk.cs (Bk.many n) 2 (0 + 1)) := by unfold Hid; rw [Bk.cs_yes HCE.out hst2, ← Ht.out]
          rw [behV_some hst2]
          clear hst2
          have hwr := i64w (x := t + Bk.many n u) (by omega) (by omega)
          go_wp2_with fail
          refine (IH.out u _ hu5 HF.out).mono ?_
          rintro e w3 ⟨rfl, hf3, hc3⟩
          have HF3 := Lib.hid hf3
          have HC3 : Hid (Chg (fun k => k ∈ bs) w w3) := HC.out.trans hc3 (fun _ _ h => h)
          clear hf3 hc3
          go_wp2_with fail
          go_roundw
          case rel => exact ⟨0 + 1, _, by omega, rfl, rfl, HT.out, HF3.out, HC3.out⟩
          case measure => simp [intOf]
      · obtain rfl : k = 1 := by omega
        clear h
        have HCE : Hid (Bk.ev[1]? = some 99) := rfl
        go_wp2_with fail
        refine (stateBehind_any 2 99 _ HQ.out (by omega)).mono ?_
        rintro e w3 ⟨rfl, rfl⟩
        cases hst2 : Bk.step 2 99 with
        | none =>
          have HT : Hid (t = Bk.cs (Bk.many n) 2 (1 + 1)) := by unfold Hid; rw [Bk.cs_no HCE.out hst2]; exact Ht.out
          rw [behV_none hst2]
          clear hst2
          go_wp2_with fail
          go_roundw
          case rel => exact ⟨1 + 1, t, by omega, rfl, rfl, HT.out, HF.out, HC.out⟩
          case measure => simp [intOf]
        | some u =>
          have hu5 : u < 5 := Bk.step_lt hst2
          obtain ⟨hm0, hm1⟩ := Bk.many_small (n := n) (s := u) (by omega)
          have HT : Hid (t + Bk.many n u = Bk.cs (Bk.many n) 2 (1 + 1)) := by unfold Hid; rw [Bk.cs_yes HCE.out hst2, ← Ht.out]
          rw [behV_some hst2]
          clear hst2
          have hwr := i64w (x := t + Bk.many n u) (by omega) (by omega)
          go_wp2_with fail
          refine (IH.out u _ hu5 HF.out).mono ?_
          rintro e w3 ⟨rfl, hf3, hc3⟩
          have HF3 := Lib.hid hf3
          have HC3 : Hid (Chg (fun k => k ∈ bs) w w3) := HC.out.trans hc3 (fun _ _ h => h)
          clear hf3 hc3
          go_wp2_with fail
          go_roundw
          case rel => exact ⟨1 + 1, _, by omega, rfl, rfl, HT.out, HF3.out, HC3.out⟩
          case measure => simp [intOf]
      · obtain rfl : k = 2 := by omega
        clear h
        have HCE : Hid (Bk.ev[2]? = some 101) := rfl
        go_wp2_with fail
        refine (stateBehind_any 2 101 _ HQ.out (by omega)).mono ?_
        rintro e w3 ⟨rfl, rfl⟩
        cases hst2 : Bk.step 2 101 with
        | none =>
          have HT : Hid (t = Bk.cs (Bk.many n) 2 (2 + 1)) := by unfold Hid; rw [Bk.cs_no HCE.out hst2]; exact Ht.out
          rw [behV_none hst2]
          clear hst2
          go_wp2_with fail
          go_roundw
          case rel => exact ⟨2 + 1, t, by omega, rfl, rfl, HT.out, HF.out, HC.out⟩
          case measure => simp [intOf]
        | some u =>
          have hu5 : u < 5 := Bk.step_lt hst2
          obtain ⟨hm0, hm1⟩ := Bk.many_small (n := n) (s := u) (by omega)
          have HT : Hid (t + Bk.many n u = Bk.cs (Bk.many n) 2 (2 + 1)) := by unfold Hid; rw [Bk.cs_yes HCE.out hst2, ← Ht.out]
          rw [behV_some hst2]
          clear hst2
          have hwr := i64w (x := t + Bk.many n u) (by omega) (by omega)
          go_wp2_with fail
          refine (IH.out u _ hu5 HF.out).mono ?_
          rintro e w3 ⟨rfl, hf3, hc3⟩
          have HF3 := Lib.hid hf3
          have HC3 : Hid (Chg (fun k => k ∈ bs) w w3) := HC.out.trans hc3 (fun _ _ h => h)
          clear hf3 hc3
          go_wp2_with fail
          go_roundw
          case rel => exact ⟨2 + 1, _, by omega, rfl, rfl, HT.out, HF3.out, HC3.out⟩
          case measure => simp [intOf]
      · obtain rfl : k = 3 := by omega
        clear h
        have HCE : Hid (Bk.ev[3]? = some 102) := rfl
        go_wp2_with fail
        refine (stateBehind_any 2 102 _ HQ.out (by omega)).mono ?_
        rintro e w3 ⟨rfl, rfl⟩
        cases hst2 : Bk.step 2 102 with
        | none =>
          have HT : Hid (t = Bk.cs (Bk.many n) 2 (3 + 1)) := by unfold Hid; rw [Bk.cs_no HCE.out hst2]; exact Ht.out
          rw [behV_none hst2]
          clear hst2
          go_wp2_with fail
          go_roundw
          case rel => exact ⟨3 + 1, t, by omega, rfl, rfl, HT.out, HF.out, HC.out⟩
          case measure => simp [intOf]
        | some u =>
          have hu5 : u < 5 := Bk.step_lt hst2
          obtain ⟨hm0, hm1⟩ := Bk.many_small (n := n) (s := u) (by omega)
          have HT : Hid (t + Bk.many n u = Bk.cs (Bk.many n) 2 (3 + 1)) := by unfold Hid; rw [Bk.cs_yes HCE.out hst2, ← Ht.out]
          rw [behV_some hst2]
          clear hst2
          have hwr := i64w (x := t + Bk.many n u) (by omega) (by omega)
          go_wp2_with fail
          refine (IH.out u _ hu5 HF.out).mono ?_
          rintro e w3 ⟨rfl, hf3, hc3⟩
          have HF3 := Lib.hid hf3
          have HC3 : Hid (Chg (fun k => k ∈ bs) w w3) := HC.out.trans hc3 (fun _ _ h => h)
          clear hf3 hc3
          go_wp2_with fail
          go_roundw
          case rel => exact ⟨3 + 1, _, by omega, rfl, rfl, HT.out, HF3.out, HC3.out⟩
          case measure => simp [intOf]
      · obtain rfl : k = 4 := by omega
        clear h
        have HCE : Hid (Bk.ev[4]? = some 108) := rfl
        go_wp2_with fail
        refine (stateBehind_any 2 108 _ HQ.out (by omega)).mono ?_
        rintro e w3 ⟨rfl, rfl⟩
        cases hst2 : Bk.step 2 108 with
        | none =>
          have HT : Hid (t = Bk.cs (Bk.many n) 2 (4 + 1)) := by unfold Hid; rw [Bk.cs_no HCE.out hst2]; exact Ht.out
          rw [behV_none hst2]
          clear hst2
          go_wp2_with fail
          go_roundw
          case rel => exact ⟨4 + 1, t, by omega, rfl, rfl, HT.out, HF.out, HC.out⟩
          case measure => simp [intOf]
        | some u =>
          have hu5 : u < 5 := Bk.step_lt hst2
          obtain ⟨hm0, hm1⟩ := Bk.many_small (n := n) (s := u) (by omega)
          have HT : Hid (t + Bk.many n u = Bk.cs (Bk.many n) 2 (4 + 1)) := by unfold Hid; rw [Bk.cs_yes HCE.out hst2, ← Ht.out]
          rw [behV_some hst2]
          clear hst2
          have hwr := i64w (x := t + Bk.many n u) (by omega) (by omega)
          go_wp2_with fail
          refine (IH.out u _ hu5 HF.out).mono ?_
          rintro e w3 ⟨rfl, hf3, hc3⟩
          have HF3 := Lib.hid hf3
          have HC3 : Hid (Chg (fun k => k ∈ bs) w w3) := HC.out.trans hc3 (fun _ _ h => h)
          clear hf3 hc3
          go_wp2_with fail
          go_roundw
          case rel => exact ⟨4 + 1, _, by omega, rfl, rfl, HT.out, HF3.out, HC3.out⟩
          case measure => simp [intOf]
      · obtain rfl : k = 5 := by omega
        clear h
        have HCE : Hid (Bk.ev[5]? = some 111) := rfl
        go_wp2_with fail
        refine (stateBehind_any 2 111 _ HQ.out (by omega)).mono ?_
        rintro e w3 ⟨rfl, rfl⟩
        cases hst2 : Bk.step 2 111 with
        | none =>
          have HT : Hid (t = Bk.cs (Bk.many n) 2 (5 + 1)) := by unfold Hid; rw [Bk.cs_no HCE.out hst2]; exact Ht.out
          rw [behV_none hst2]
          clear hst2
          go_wp2_with fail
          go_roundw
          case rel => exact ⟨5 + 1, t, by omega, rfl, rfl, HT.out, HF.out, HC.out⟩
          case measure => simp [intOf]
        | some u =>
          have hu5 : u < 5 := Bk.step_lt hst2
          obtain ⟨hm0, hm1⟩ := Bk.many_small (n := n) (s := u) (by omega)
          have HT : Hid (t + Bk.many n u = Bk.cs (Bk.many n) 2 (5 + 1)) := by unfold Hid; rw [Bk.cs_yes HCE.out hst2, ← Ht.out]
          rw [behV_some hst2]
          clear hst2
          have hwr := i64w (x := t + Bk.many n u) (by omega) (by omega)
          go_wp2_with fail
          refine (IH.out u _ hu5 HF.out).mono ?_
          rintro e w3 ⟨rfl, hf3, hc3⟩
          have HF3 := Lib.hid hf3
          have HC3 : Hid (Chg (fun k => k ∈ bs) w w3) := HC.out.trans hc3 (fun _ _ h => h)
          clear hf3 hc3
          go_wp2_with fail
          go_roundw
          case rel => exact ⟨5 + 1, _, by omega, rfl, rfl, HT.out, HF3.out, HC3.out⟩
          case measure => simp [intOf]
      · obtain rfl : k = 6 := by omega
        clear h
        have HCE : Hid (Bk.ev[6]? = some 114) := rfl
        go_wp2_with fail
        refine (stateBehind_any 2 114 _ HQ.out (by omega)).mono ?_
        rintro e w3 ⟨rfl, rfl⟩
        cases hst2 : Bk.step 2 114 with
        | none =>
          have HT : Hid (t = Bk.cs (Bk.many n) 2 (6 + 1)) := by unfold Hid; rw [Bk.cs_no HCE.out hst2]; exact Ht.out
          rw [behV_none hst2]
          clear hst2
          go_wp2_with fail
          go_roundw
          case rel => exact ⟨6 + 1, t, by omega, rfl, rfl, HT.out, HF.out, HC.out⟩
          case measure => simp [intOf]
        | some u =>
          have hu5 : u < 5 := Bk.step_lt hst2
          obtain ⟨hm0, hm1⟩ := Bk.many_small (n := n) (s := u) (by omega)
          have HT : Hid (t + Bk.many n u = Bk.cs (Bk.many n) 2 (6 + 1)) := by unfold Hid; rw [Bk.cs_yes HCE.out hst2, ← Ht.out]
          rw [behV_some hst2]
          clear hst2
          have hwr := i64w (x := t + Bk.many n u) (by omega) (by omega)
          go_wp2_with fail
          refine (IH.out u _ hu5 HF.out).mono ?_
          rintro e w3 ⟨rfl, hf3, hc3⟩
          have HF3 := Lib.hid hf3
          have HC3 : Hid (Chg (fun k => k ∈ bs) w w3) := HC.out.trans hc3 (fun _ _ h => h)
          clear hf3 hc3
          go_wp2_with fail
          go_roundw
          case rel => exact ⟨6 + 1, _, by omega, rfl, rfl, HT.out, HF3.out, HC3.out⟩
          case measure => simp [intOf]
      · obtain rfl : k = 7 := by omega
        clear h
        have HE : Hid (Bk.many (n + 1) 2 = t) := Ht.out.symm
        have hgood : GoodM (n + 1) (bv (Bk.nd 2) (Bk.ins 2) (Bk.off 2)) (.int .i64 t) := ⟨2, HQ.out, rfl, by rw [HE.out]⟩
        have HGD := Lib.hid hgood
        clear hgood
        have hc0 := HF.out.cell _ _ HB.out
        go_wp2_with fail
        go_region_held3 (fun W => W.cell? ⟨fb, n + 1, none⟩ = some (.map (some b)))
          (first | exact hc0 | exact hc2 | exact HF4.out.cell _ _ HB.out)
          (first | (go_at_call 116; refine (clearB_any _).mono ?_; rintro e w2 ⟨rfl, hb2⟩; have hc2 := (hb2.cell (p := ⟨fb, n + 1, none⟩) (block_lt_of_cell hc0)).trans hc0; have HF2 := Lib.hid (Found.below (w := wr.drew) (by exact ⟨HF.out.cell, HF.out.memo⟩) hb2); have HC2 : Hid (Chg (fun k => k ∈ bs) w w2) := HC.out.drew.seq hb2; clear hb2; obtain ⟨w4, hrun4, hm4, hg4⟩ := (HF2.out.memo _ _ HB.out).store Try.keyedBlock Try.underlying77 HKEY.out HGD.out; have HF4 := Lib.hid (HF2.out.stored HA.out HB.out hm4 hg4); have HC4 := Lib.hid (chg_stored HC2.out HB.out hg4); clear hm4 hg4))
        all_goals go_wp2_with fail
        all_goals go_ret
        all_goals exact ⟨ret_int HE.out.symm, HF4.out, HC4.out⟩
  · have HL := Lib.hid hl
    clear hl
    rw [show stV 2 = Value.iface 104 (.agg #[]) from rfl]
    go_enter Try.func64, Try.ntmps64
    go_wp2_with fail
    go_region_held3 (fun W => W.cell? ⟨fb, n + 1, none⟩ = some (.map (some b)))
      (first | exact hc0 | exact hc2)
      (first | (go_at_call 116; refine (clearB_any _).mono ?_; rintro e w2 ⟨rfl, hb2⟩; have hc2 := (hb2.cell (p := ⟨fb, n + 1, none⟩) (block_lt_of_cell hc0)).trans hc0; have hrun := HL.out w2 (hb2.block b (HF.out.memo _ _ HB.out).lt); have HF2 := Lib.hid (Found.below (w := w.drew) (by exact ⟨HF.out.cell, HF.out.memo⟩) hb2); have HC2 : Hid (Chg (fun k => k ∈ bs) w w2) := (Chg.refl _ _).drew.seq hb2; clear hb2))
    all_goals go_wp2_with fail
    all_goals go_ret
    all_goals exact ⟨rfl, HF2.out, HC2.out⟩
set_option maxRecDepth 100000 in
set_option maxHeartbeats 16000000 in
theorem countTexts_3 (fb N c : Nat) (bs : List Nat) (n : Nat) (hn : n + 1 < N) (hN : N ≤ 31) (hbl : bs.length = N) (hA : Apart fb bs) (ih : IHM fb N c bs n) (w : World) (hF : Found w fb bs) :
    Calls Try.prog 64 #[stV 3, .int .i64 ((n : Int) + 1), .slice (some ⟨fb, 0, none⟩) N c] w fun e w' => e = .returned (.int .i64 (Bk.many (n + 1) 3)) ∧ Found w' fb bs ∧ Chg (fun k => k ∈ bs) w w' := by
  obtain ⟨b, hb⟩ : ∃ b, bs[n + 1]? = some b := ⟨_, List.getElem?_eq_getElem (by omega)⟩
  have HB := Lib.hid hb
  have HA := Lib.hid hA
  have IH := Lib.hid ih
  have HF := Lib.hid hF
  have hc0 := hF.cell _ _ hb
  have hq5 : 3 < 5 := by omega
  have HQ := Lib.hid hq5
  have hn0 : ((n : Int) + 1 == 0) = false := by simp; omega
  have hin : (n : Int) + 1 < (N : Int) := by omega
  have hin0 : (0 : Int) ≤ (n : Int) + 1 := by omega
  obtain ⟨kl, hkey⟩ := key_st hq5
  have HKEY := Lib.hid hkey
  have hlook := look_all (q := 3) hq5 (hF.memo _ _ hb)
  clear hb hA ih hF hbl hkey
  rcases hlook with hl | hl
  · have HL := Lib.hid hl
    clear hl
    rw [show stV 3 = Value.iface 105 (.agg #[]) from rfl]
    go_enter Try.func64, Try.ntmps64
    go_wp2_with fail
    go_region_held3 (fun W => W.cell? ⟨fb, n + 1, none⟩ = some (.map (some b)))
      (first | exact hc0 | exact hc2)
      (first | (go_at_call 117; refine (insideB_any _).mono ?_; rintro e w2 ⟨rfl, hb2⟩; have hc2 := (hb2.cell (p := ⟨fb, n + 1, none⟩) (block_lt_of_cell hc0)).trans hc0; have hrun := HL.out w2 (hb2.block b (HF.out.memo _ _ HB.out).lt); have HF2 := Lib.hid (Found.below (w := w.drew) (by exact ⟨HF.out.cell, HF.out.memo⟩) hb2); have HC2 : Hid (Chg (fun k => k ∈ bs) w w2) := (Chg.refl _ _).drew.seq hb2; clear hb2))
    all_goals clear hc0 hc2
    all_goals go_wp2_with fail
    all_goals clear hrun
    all_goals go_loopw [9, 27] (fun v i wr => ∃ (k : Nat) (t : Int), k ≤ 7 ∧ i = .int .i64 k ∧ v = .int .i64 t ∧ Hid (t = Bk.cs (Bk.many n) 3 k) ∧ Hid (Found wr fb bs) ∧ Hid (Chg (fun k => k ∈ bs) w wr)) (fun _ i _ => 7 - (intOf i).toNat)
    case atStart => exact ⟨0, 0, by omega, rfl, rfl, rfl, HF2.out, HC2.out⟩
    case round =>
      clear HF HL
      obtain ⟨k, t, hk, rfl, rfl, Ht, HF, HC⟩ := hrel
      obtain ⟨ht0, ht1⟩ : 0 ≤ t ∧ t ≤ 2147483648 := by rw [Ht.out]; exact Bk.cs_small (by omega) (by omega)
      have : k = 0 ∨ k = 1 ∨ k = 2 ∨ k = 3 ∨ k = 4 ∨ k = 5 ∨ k = 6 ∨ k = 7 := by omega
      rcases this with h | h | h | h | h | h | h | h
      · obtain rfl : k = 0 := by omega
        clear h
        have HCE : Hid (Bk.ev[0]? = some 97) := rfl
        go_wp2_with fail
        refine (stateBehind_any 3 97 _ HQ.out (by omega)).mono ?_
        rintro e w3 ⟨rfl, rfl⟩
        cases hst2 : Bk.step 3 97 with
        | none =>
          have HT : Hid (t = Bk.cs (Bk.many n) 3 (0 + 1)) := by unfold Hid; rw [Bk.cs_no HCE.out hst2]; exact Ht.out
          rw [behV_none hst2]
          clear hst2
          go_wp2_with fail
          go_roundw
          case rel => exact ⟨0 + 1, t, by omega, rfl, rfl, HT.out, HF.out, HC.out⟩
          case measure => simp [intOf]
        | some u =>
          have hu5 : u < 5 := Bk.step_lt hst2
          obtain ⟨hm0, hm1⟩ := Bk.many_small (n := n) (s := u) (by omega)
          have HT : Hid (t + Bk.many n u = Bk.cs (Bk.many n) 3 (0 + 1)) := by unfold Hid; rw [Bk.cs_yes HCE.out hst2, ← Ht.out]
          rw [behV_some hst2]
          clear hst2
          have hwr := i64w (x := t + Bk.many n u) (by omega) (by omega)
          go_wp2_with fail
          refine (IH.out u _ hu5 HF.out).mono ?_
          rintro e w3 ⟨rfl, hf3, hc3⟩
          have HF3 := Lib.hid hf3
          have HC3 : Hid (Chg (fun k => k ∈ bs) w w3) := HC.out.trans hc3 (fun _ _ h => h)
          clear hf3 hc3
          go_wp2_with fail
          go_roundw
          case rel => exact ⟨0 + 1, _, by omega, rfl, rfl, HT.out, HF3.out, HC3.out⟩
          case measure => simp [intOf]
      · obtain rfl : k = 1 := by omega
        clear h
        have HCE : Hid (Bk.ev[1]? = some 99) := rfl
        go_wp2_with fail
        refine (stateBehind_any 3 99 _ HQ.out (by omega)).mono ?_
        rintro e w3 ⟨rfl, rfl⟩
        cases hst2 : Bk.step 3 99 with
        | none =>
          have HT : Hid (t = Bk.cs (Bk.many n) 3 (1 + 1)) := by unfold Hid; rw [Bk.cs_no HCE.out hst2]; exact Ht.out
          rw [behV_none hst2]
          clear hst2
          go_wp2_with fail
          go_roundw
          case rel => exact ⟨1 + 1, t, by omega, rfl, rfl, HT.out, HF.out, HC.out⟩
          case measure => simp [intOf]
        | some u =>
          have hu5 : u < 5 := Bk.step_lt hst2
          obtain ⟨hm0, hm1⟩ := Bk.many_small (n := n) (s := u) (by omega)
          have HT : Hid (t + Bk.many n u = Bk.cs (Bk.many n) 3 (1 + 1)) := by unfold Hid; rw [Bk.cs_yes HCE.out hst2, ← Ht.out]
          rw [behV_some hst2]
          clear hst2
          have hwr := i64w (x := t + Bk.many n u) (by omega) (by omega)
          go_wp2_with fail
          refine (IH.out u _ hu5 HF.out).mono ?_
          rintro e w3 ⟨rfl, hf3, hc3⟩
          have HF3 := Lib.hid hf3
          have HC3 : Hid (Chg (fun k => k ∈ bs) w w3) := HC.out.trans hc3 (fun _ _ h => h)
          clear hf3 hc3
          go_wp2_with fail
          go_roundw
          case rel => exact ⟨1 + 1, _, by omega, rfl, rfl, HT.out, HF3.out, HC3.out⟩
          case measure => simp [intOf]
      · obtain rfl : k = 2 := by omega
        clear h
        have HCE : Hid (Bk.ev[2]? = some 101) := rfl
        go_wp2_with fail
        refine (stateBehind_any 3 101 _ HQ.out (by omega)).mono ?_
        rintro e w3 ⟨rfl, rfl⟩
        cases hst2 : Bk.step 3 101 with
        | none =>
          have HT : Hid (t = Bk.cs (Bk.many n) 3 (2 + 1)) := by unfold Hid; rw [Bk.cs_no HCE.out hst2]; exact Ht.out
          rw [behV_none hst2]
          clear hst2
          go_wp2_with fail
          go_roundw
          case rel => exact ⟨2 + 1, t, by omega, rfl, rfl, HT.out, HF.out, HC.out⟩
          case measure => simp [intOf]
        | some u =>
          have hu5 : u < 5 := Bk.step_lt hst2
          obtain ⟨hm0, hm1⟩ := Bk.many_small (n := n) (s := u) (by omega)
          have HT : Hid (t + Bk.many n u = Bk.cs (Bk.many n) 3 (2 + 1)) := by unfold Hid; rw [Bk.cs_yes HCE.out hst2, ← Ht.out]
          rw [behV_some hst2]
          clear hst2
          have hwr := i64w (x := t + Bk.many n u) (by omega) (by omega)
          go_wp2_with fail
          refine (IH.out u _ hu5 HF.out).mono ?_
          rintro e w3 ⟨rfl, hf3, hc3⟩
          have HF3 := Lib.hid hf3
          have HC3 : Hid (Chg (fun k => k ∈ bs) w w3) := HC.out.trans hc3 (fun _ _ h => h)
          clear hf3 hc3
          go_wp2_with fail
          go_roundw
          case rel => exact ⟨2 + 1, _, by omega, rfl, rfl, HT.out, HF3.out, HC3.out⟩
          case measure => simp [intOf]
      · obtain rfl : k = 3 := by omega
        clear h
        have HCE : Hid (Bk.ev[3]? = some 102) := rfl
        go_wp2_with fail
        refine (stateBehind_any 3 102 _ HQ.out (by omega)).mono ?_
        rintro e w3 ⟨rfl, rfl⟩
        cases hst2 : Bk.step 3 102 with
        | none =>
          have HT : Hid (t = Bk.cs (Bk.many n) 3 (3 + 1)) := by unfold Hid; rw [Bk.cs_no HCE.out hst2]; exact Ht.out
          rw [behV_none hst2]
          clear hst2
          go_wp2_with fail
          go_roundw
          case rel => exact ⟨3 + 1, t, by omega, rfl, rfl, HT.out, HF.out, HC.out⟩
          case measure => simp [intOf]
        | some u =>
          have hu5 : u < 5 := Bk.step_lt hst2
          obtain ⟨hm0, hm1⟩ := Bk.many_small (n := n) (s := u) (by omega)
          have HT : Hid (t + Bk.many n u = Bk.cs (Bk.many n) 3 (3 + 1)) := by unfold Hid; rw [Bk.cs_yes HCE.out hst2, ← Ht.out]
          rw [behV_some hst2]
          clear hst2
          have hwr := i64w (x := t + Bk.many n u) (by omega) (by omega)
          go_wp2_with fail
          refine (IH.out u _ hu5 HF.out).mono ?_
          rintro e w3 ⟨rfl, hf3, hc3⟩
          have HF3 := Lib.hid hf3
          have HC3 : Hid (Chg (fun k => k ∈ bs) w w3) := HC.out.trans hc3 (fun _ _ h => h)
          clear hf3 hc3
          go_wp2_with fail
          go_roundw
          case rel => exact ⟨3 + 1, _, by omega, rfl, rfl, HT.out, HF3.out, HC3.out⟩
          case measure => simp [intOf]
      · obtain rfl : k = 4 := by omega
        clear h
        have HCE : Hid (Bk.ev[4]? = some 108) := rfl
        go_wp2_with fail
        refine (stateBehind_any 3 108 _ HQ.out (by omega)).mono ?_
        rintro e w3 ⟨rfl, rfl⟩
        cases hst2 : Bk.step 3 108 with
        | none =>
          have HT : Hid (t = Bk.cs (Bk.many n) 3 (4 + 1)) := by unfold Hid; rw [Bk.cs_no HCE.out hst2]; exact Ht.out
          rw [behV_none hst2]
          clear hst2
          go_wp2_with fail
          go_roundw
          case rel => exact ⟨4 + 1, t, by omega, rfl, rfl, HT.out, HF.out, HC.out⟩
          case measure => simp [intOf]
        | some u =>
          have hu5 : u < 5 := Bk.step_lt hst2
          obtain ⟨hm0, hm1⟩ := Bk.many_small (n := n) (s := u) (by omega)
          have HT : Hid (t + Bk.many n u = Bk.cs (Bk.many n) 3 (4 + 1)) := by unfold Hid; rw [Bk.cs_yes HCE.out hst2, ← Ht.out]
          rw [behV_some hst2]
          clear hst2
          have hwr := i64w (x := t + Bk.many n u) (by omega) (by omega)
          go_wp2_with fail
          refine (IH.out u _ hu5 HF.out).mono ?_
          rintro e w3 ⟨rfl, hf3, hc3⟩
          have HF3 := Lib.hid hf3
          have HC3 : Hid (Chg (fun k => k ∈ bs) w w3) := HC.out.trans hc3 (fun _ _ h => h)
          clear hf3 hc3
          go_wp2_with fail
          go_roundw
          case rel => exact ⟨4 + 1, _, by omega, rfl, rfl, HT.out, HF3.out, HC3.out⟩
          case measure => simp [intOf]
      · obtain rfl : k = 5 := by omega
        clear h
        have HCE : Hid (Bk.ev[5]? = some 111) := rfl
        go_wp2_with fail
        refine (stateBehind_any 3 111 _ HQ.out (by omega)).mono ?_
        rintro e w3 ⟨rfl, rfl⟩
        cases hst2 : Bk.step 3 111 with
        | none =>
          have HT : Hid (t = Bk.cs (Bk.many n) 3 (5 + 1)) := by unfold Hid; rw [Bk.cs_no HCE.out hst2]; exact Ht.out
          rw [behV_none hst2]
          clear hst2
          go_wp2_with fail
          go_roundw
          case rel => exact ⟨5 + 1, t, by omega, rfl, rfl, HT.out, HF.out, HC.out⟩
          case measure => simp [intOf]
        | some u =>
          have hu5 : u < 5 := Bk.step_lt hst2
          obtain ⟨hm0, hm1⟩ := Bk.many_small (n := n) (s := u) (by omega)
          have HT : Hid (t + Bk.many n u = Bk.cs (Bk.many n) 3 (5 + 1)) := by unfold Hid; rw [Bk.cs_yes HCE.out hst2, ← Ht.out]
          rw [behV_some hst2]
          clear hst2
          have hwr := i64w (x := t + Bk.many n u) (by omega) (by omega)
          go_wp2_with fail
          refine (IH.out u _ hu5 HF.out).mono ?_
          rintro e w3 ⟨rfl, hf3, hc3⟩
          have HF3 := Lib.hid hf3
          have HC3 : Hid (Chg (fun k => k ∈ bs) w w3) := HC.out.trans hc3 (fun _ _ h => h)
          clear hf3 hc3
          go_wp2_with fail
          go_roundw
          case rel => exact ⟨5 + 1, _, by omega, rfl, rfl, HT.out, HF3.out, HC3.out⟩
          case measure => simp [intOf]
      · obtain rfl : k = 6 := by omega
        clear h
        have HCE : Hid (Bk.ev[6]? = some 114) := rfl
        go_wp2_with fail
        refine (stateBehind_any 3 114 _ HQ.out (by omega)).mono ?_
        rintro e w3 ⟨rfl, rfl⟩
        cases hst2 : Bk.step 3 114 with
        | none =>
          have HT : Hid (t = Bk.cs (Bk.many n) 3 (6 + 1)) := by unfold Hid; rw [Bk.cs_no HCE.out hst2]; exact Ht.out
          rw [behV_none hst2]
          clear hst2
          go_wp2_with fail
          go_roundw
          case rel => exact ⟨6 + 1, t, by omega, rfl, rfl, HT.out, HF.out, HC.out⟩
          case measure => simp [intOf]
        | some u =>
          have hu5 : u < 5 := Bk.step_lt hst2
          obtain ⟨hm0, hm1⟩ := Bk.many_small (n := n) (s := u) (by omega)
          have HT : Hid (t + Bk.many n u = Bk.cs (Bk.many n) 3 (6 + 1)) := by unfold Hid; rw [Bk.cs_yes HCE.out hst2, ← Ht.out]
          rw [behV_some hst2]
          clear hst2
          have hwr := i64w (x := t + Bk.many n u) (by omega) (by omega)
          go_wp2_with fail
          refine (IH.out u _ hu5 HF.out).mono ?_
          rintro e w3 ⟨rfl, hf3, hc3⟩
          have HF3 := Lib.hid hf3
          have HC3 : Hid (Chg (fun k => k ∈ bs) w w3) := HC.out.trans hc3 (fun _ _ h => h)
          clear hf3 hc3
          go_wp2_with fail
          go_roundw
          case rel => exact ⟨6 + 1, _, by omega, rfl, rfl, HT.out, HF3.out, HC3.out⟩
          case measure => simp [intOf]
      · obtain rfl : k = 7 := by omega
        clear h
        have HE : Hid (Bk.many (n + 1) 3 = t) := Ht.out.symm
        have hgood : GoodM (n + 1) (bv (Bk.nd 3) (Bk.ins 3) (Bk.off 3)) (.int .i64 t) := ⟨3, HQ.out, rfl, by rw [HE.out]⟩
        have HGD := Lib.hid hgood
        clear hgood
        have hc0 := HF.out.cell _ _ HB.out
        go_wp2_with fail
        go_region_held3 (fun W => W.cell? ⟨fb, n + 1, none⟩ = some (.map (some b)))
          (first | exact hc0 | exact hc2 | exact HF4.out.cell _ _ HB.out)
          (first | (go_at_call 117; refine (insideB_any _).mono ?_; rintro e w2 ⟨rfl, hb2⟩; have hc2 := (hb2.cell (p := ⟨fb, n + 1, none⟩) (block_lt_of_cell hc0)).trans hc0; have HF2 := Lib.hid (Found.below (w := wr.drew) (by exact ⟨HF.out.cell, HF.out.memo⟩) hb2); have HC2 : Hid (Chg (fun k => k ∈ bs) w w2) := HC.out.drew.seq hb2; clear hb2; obtain ⟨w4, hrun4, hm4, hg4⟩ := (HF2.out.memo _ _ HB.out).store Try.keyedBlock Try.underlying77 HKEY.out HGD.out; have HF4 := Lib.hid (HF2.out.stored HA.out HB.out hm4 hg4); have HC4 := Lib.hid (chg_stored HC2.out HB.out hg4); clear hm4 hg4))
        all_goals go_wp2_with fail
        all_goals go_ret
        all_goals exact ⟨ret_int HE.out.symm, HF4.out, HC4.out⟩
  · have HL := Lib.hid hl
    clear hl
    rw [show stV 3 = Value.iface 105 (.agg #[]) from rfl]
    go_enter Try.func64, Try.ntmps64
    go_wp2_with fail
    go_region_held3 (fun W => W.cell? ⟨fb, n + 1, none⟩ = some (.map (some b)))
      (first | exact hc0 | exact hc2)
      (first | (go_at_call 117; refine (insideB_any _).mono ?_; rintro e w2 ⟨rfl, hb2⟩; have hc2 := (hb2.cell (p := ⟨fb, n + 1, none⟩) (block_lt_of_cell hc0)).trans hc0; have hrun := HL.out w2 (hb2.block b (HF.out.memo _ _ HB.out).lt); have HF2 := Lib.hid (Found.below (w := w.drew) (by exact ⟨HF.out.cell, HF.out.memo⟩) hb2); have HC2 : Hid (Chg (fun k => k ∈ bs) w w2) := (Chg.refl _ _).drew.seq hb2; clear hb2))
    all_goals go_wp2_with fail
    all_goals go_ret
    all_goals exact ⟨rfl, HF2.out, HC2.out⟩
set_option maxRecDepth 100000 in
set_option maxHeartbeats 16000000 in
theorem countTexts_4 (fb N c : Nat) (bs : List Nat) (n : Nat) (hn : n + 1 < N) (hN : N ≤ 31) (hbl : bs.length = N) (hA : Apart fb bs) (ih : IHM fb N c bs n) (w : World) (hF : Found w fb bs) :
    Calls Try.prog 64 #[stV 4, .int .i64 ((n : Int) + 1), .slice (some ⟨fb, 0, none⟩) N c] w fun e w' => e = .returned (.int .i64 (Bk.many (n + 1) 4)) ∧ Found w' fb bs ∧ Chg (fun k => k ∈ bs) w w' := by
  obtain ⟨b, hb⟩ : ∃ b, bs[n + 1]? = some b := ⟨_, List.getElem?_eq_getElem (by omega)⟩
  have HB := Lib.hid hb
  have HA := Lib.hid hA
  have IH := Lib.hid ih
  have HF := Lib.hid hF
  have hc0 := hF.cell _ _ hb
  have hq5 : 4 < 5 := by omega
  have HQ := Lib.hid hq5
  have hn0 : ((n : Int) + 1 == 0) = false := by simp; omega
  have hin : (n : Int) + 1 < (N : Int) := by omega
  have hin0 : (0 : Int) ≤ (n : Int) + 1 := by omega
  obtain ⟨kl, hkey⟩ := key_st hq5
  have HKEY := Lib.hid hkey
  have hlook := look_all (q := 4) hq5 (hF.memo _ _ hb)
  clear hb hA ih hF hbl hkey
  rcases hlook with hl | hl
  · have HL := Lib.hid hl
    clear hl
    rw [show stV 4 = Value.iface 106 (.agg #[]) from rfl]
    go_enter Try.func64, Try.ntmps64
    go_wp2_with fail
    go_region_held3 (fun W => W.cell? ⟨fb, n + 1, none⟩ = some (.map (some b)))
      (first | exact hc0 | exact hc2)
      (first | (go_at_call 118; refine (passedB_any _).mono ?_; rintro e w2 ⟨rfl, hb2⟩; have hc2 := (hb2.cell (p := ⟨fb, n + 1, none⟩) (block_lt_of_cell hc0)).trans hc0; have hrun := HL.out w2 (hb2.block b (HF.out.memo _ _ HB.out).lt); have HF2 := Lib.hid (Found.below (w := w.drew) (by exact ⟨HF.out.cell, HF.out.memo⟩) hb2); have HC2 : Hid (Chg (fun k => k ∈ bs) w w2) := (Chg.refl _ _).drew.seq hb2; clear hb2))
    all_goals clear hc0 hc2
    all_goals go_wp2_with fail
    all_goals clear hrun
    all_goals go_loopw [9, 27] (fun v i wr => ∃ (k : Nat) (t : Int), k ≤ 7 ∧ i = .int .i64 k ∧ v = .int .i64 t ∧ Hid (t = Bk.cs (Bk.many n) 4 k) ∧ Hid (Found wr fb bs) ∧ Hid (Chg (fun k => k ∈ bs) w wr)) (fun _ i _ => 7 - (intOf i).toNat)
    case atStart => exact ⟨0, 0, by omega, rfl, rfl, rfl, HF2.out, HC2.out⟩
    case round =>
      clear HF HL
      obtain ⟨k, t, hk, rfl, rfl, Ht, HF, HC⟩ := hrel
      obtain ⟨ht0, ht1⟩ : 0 ≤ t ∧ t ≤ 2147483648 := by rw [Ht.out]; exact Bk.cs_small (by omega) (by omega)
      have : k = 0 ∨ k = 1 ∨ k = 2 ∨ k = 3 ∨ k = 4 ∨ k = 5 ∨ k = 6 ∨ k = 7 := by omega
      rcases this with h | h | h | h | h | h | h | h
      · obtain rfl : k = 0 := by omega
        clear h
        have HCE : Hid (Bk.ev[0]? = some 97) := rfl
        go_wp2_with fail
        refine (stateBehind_any 4 97 _ HQ.out (by omega)).mono ?_
        rintro e w3 ⟨rfl, rfl⟩
        cases hst2 : Bk.step 4 97 with
        | none =>
          have HT : Hid (t = Bk.cs (Bk.many n) 4 (0 + 1)) := by unfold Hid; rw [Bk.cs_no HCE.out hst2]; exact Ht.out
          rw [behV_none hst2]
          clear hst2
          go_wp2_with fail
          go_roundw
          case rel => exact ⟨0 + 1, t, by omega, rfl, rfl, HT.out, HF.out, HC.out⟩
          case measure => simp [intOf]
        | some u =>
          have hu5 : u < 5 := Bk.step_lt hst2
          obtain ⟨hm0, hm1⟩ := Bk.many_small (n := n) (s := u) (by omega)
          have HT : Hid (t + Bk.many n u = Bk.cs (Bk.many n) 4 (0 + 1)) := by unfold Hid; rw [Bk.cs_yes HCE.out hst2, ← Ht.out]
          rw [behV_some hst2]
          clear hst2
          have hwr := i64w (x := t + Bk.many n u) (by omega) (by omega)
          go_wp2_with fail
          refine (IH.out u _ hu5 HF.out).mono ?_
          rintro e w3 ⟨rfl, hf3, hc3⟩
          have HF3 := Lib.hid hf3
          have HC3 : Hid (Chg (fun k => k ∈ bs) w w3) := HC.out.trans hc3 (fun _ _ h => h)
          clear hf3 hc3
          go_wp2_with fail
          go_roundw
          case rel => exact ⟨0 + 1, _, by omega, rfl, rfl, HT.out, HF3.out, HC3.out⟩
          case measure => simp [intOf]
      · obtain rfl : k = 1 := by omega
        clear h
        have HCE : Hid (Bk.ev[1]? = some 99) := rfl
        go_wp2_with fail
        refine (stateBehind_any 4 99 _ HQ.out (by omega)).mono ?_
        rintro e w3 ⟨rfl, rfl⟩
        cases hst2 : Bk.step 4 99 with
        | none =>
          have HT : Hid (t = Bk.cs (Bk.many n) 4 (1 + 1)) := by unfold Hid; rw [Bk.cs_no HCE.out hst2]; exact Ht.out
          rw [behV_none hst2]
          clear hst2
          go_wp2_with fail
          go_roundw
          case rel => exact ⟨1 + 1, t, by omega, rfl, rfl, HT.out, HF.out, HC.out⟩
          case measure => simp [intOf]
        | some u =>
          have hu5 : u < 5 := Bk.step_lt hst2
          obtain ⟨hm0, hm1⟩ := Bk.many_small (n := n) (s := u) (by omega)
          have HT : Hid (t + Bk.many n u = Bk.cs (Bk.many n) 4 (1 + 1)) := by unfold Hid; rw [Bk.cs_yes HCE.out hst2, ← Ht.out]
          rw [behV_some hst2]
          clear hst2
          have hwr := i64w (x := t + Bk.many n u) (by omega) (by omega)
          go_wp2_with fail
          refine (IH.out u _ hu5 HF.out).mono ?_
          rintro e w3 ⟨rfl, hf3, hc3⟩
          have HF3 := Lib.hid hf3
          have HC3 : Hid (Chg (fun k => k ∈ bs) w w3) := HC.out.trans hc3 (fun _ _ h => h)
          clear hf3 hc3
          go_wp2_with fail
          go_roundw
          case rel => exact ⟨1 + 1, _, by omega, rfl, rfl, HT.out, HF3.out, HC3.out⟩
          case measure => simp [intOf]
      · obtain rfl : k = 2 := by omega
        clear h
        have HCE : Hid (Bk.ev[2]? = some 101) := rfl
        go_wp2_with fail
        refine (stateBehind_any 4 101 _ HQ.out (by omega)).mono ?_
        rintro e w3 ⟨rfl, rfl⟩
        cases hst2 : Bk.step 4 101 with
        | none =>
          have HT : Hid (t = Bk.cs (Bk.many n) 4 (2 + 1)) := by unfold Hid; rw [Bk.cs_no HCE.out hst2]; exact Ht.out
          rw [behV_none hst2]
          clear hst2
          go_wp2_with fail
          go_roundw
          case rel => exact ⟨2 + 1, t, by omega, rfl, rfl, HT.out, HF.out, HC.out⟩
          case measure => simp [intOf]
        | some u =>
          have hu5 : u < 5 := Bk.step_lt hst2
          obtain ⟨hm0, hm1⟩ := Bk.many_small (n := n) (s := u) (by omega)
          have HT : Hid (t + Bk.many n u = Bk.cs (Bk.many n) 4 (2 + 1)) := by unfold Hid; rw [Bk.cs_yes HCE.out hst2, ← Ht.out]
          rw [behV_some hst2]
          clear hst2
          have hwr := i64w (x := t + Bk.many n u) (by omega) (by omega)
          go_wp2_with fail
          refine (IH.out u _ hu5 HF.out).mono ?_
          rintro e w3 ⟨rfl, hf3, hc3⟩
          have HF3 := Lib.hid hf3
          have HC3 : Hid (Chg (fun k => k ∈ bs) w w3) := HC.out.trans hc3 (fun _ _ h => h)
          clear hf3 hc3
          go_wp2_with fail
          go_roundw
          case rel => exact ⟨2 + 1, _, by omega, rfl, rfl, HT.out, HF3.out, HC3.out⟩
          case measure => simp [intOf]
      · obtain rfl : k = 3 := by omega
        clear h
        have HCE : Hid (Bk.ev[3]? = some 102) := rfl
        go_wp2_with fail
        refine (stateBehind_any 4 102 _ HQ.out (by omega)).mono ?_
        rintro e w3 ⟨rfl, rfl⟩
        cases hst2 : Bk.step 4 102 with
        | none =>
          have HT : Hid (t = Bk.cs (Bk.many n) 4 (3 + 1)) := by unfold Hid; rw [Bk.cs_no HCE.out hst2]; exact Ht.out
          rw [behV_none hst2]
          clear hst2
          go_wp2_with fail
          go_roundw
          case rel => exact ⟨3 + 1, t, by omega, rfl, rfl, HT.out, HF.out, HC.out⟩
          case measure => simp [intOf]
        | some u =>
          have hu5 : u < 5 := Bk.step_lt hst2
          obtain ⟨hm0, hm1⟩ := Bk.many_small (n := n) (s := u) (by omega)
          have HT : Hid (t + Bk.many n u = Bk.cs (Bk.many n) 4 (3 + 1)) := by unfold Hid; rw [Bk.cs_yes HCE.out hst2, ← Ht.out]
          rw [behV_some hst2]
          clear hst2
          have hwr := i64w (x := t + Bk.many n u) (by omega) (by omega)
          go_wp2_with fail
          refine (IH.out u _ hu5 HF.out).mono ?_
          rintro e w3 ⟨rfl, hf3, hc3⟩
          have HF3 := Lib.hid hf3
          have HC3 : Hid (Chg (fun k => k ∈ bs) w w3) := HC.out.trans hc3 (fun _ _ h => h)
          clear hf3 hc3
          go_wp2_with fail
          go_roundw
          case rel => exact ⟨3 + 1, _, by omega, rfl, rfl, HT.out, HF3.out, HC3.out⟩
          case measure => simp [intOf]
      · obtain rfl : k = 4 := by omega
        clear h
        have HCE : Hid (Bk.ev[4]? = some 108) := rfl
        go_wp2_with fail
        refine (stateBehind_any 4 108 _ HQ.out (by omega)).mono ?_
        rintro e w3 ⟨rfl, rfl⟩
        cases hst2 : Bk.step 4 108 with
        | none =>
          have HT : Hid (t = Bk.cs (Bk.many n) 4 (4 + 1)) := by unfold Hid; rw [Bk.cs_no HCE.out hst2]; exact Ht.out
          rw [behV_none hst2]
          clear hst2
          go_wp2_with fail
          go_roundw
          case rel => exact ⟨4 + 1, t, by omega, rfl, rfl, HT.out, HF.out, HC.out⟩
          case measure => simp [intOf]
        | some u =>
          have hu5 : u < 5 := Bk.step_lt hst2
          obtain ⟨hm0, hm1⟩ := Bk.many_small (n := n) (s := u) (by omega)
          have HT : Hid (t + Bk.many n u = Bk.cs (Bk.many n) 4 (4 + 1)) := by unfold Hid; rw [Bk.cs_yes HCE.out hst2, ← Ht.out]
          rw [behV_some hst2]
          clear hst2
          have hwr := i64w (x := t + Bk.many n u) (by omega) (by omega)
          go_wp2_with fail
          refine (IH.out u _ hu5 HF.out).mono ?_
          rintro e w3 ⟨rfl, hf3, hc3⟩
          have HF3 := Lib.hid hf3
          have HC3 : Hid (Chg (fun k => k ∈ bs) w w3) := HC.out.trans hc3 (fun _ _ h => h)
          clear hf3 hc3
          go_wp2_with fail
          go_roundw
          case rel => exact ⟨4 + 1, _, by omega, rfl, rfl, HT.out, HF3.out, HC3.out⟩
          case measure => simp [intOf]
      · obtain rfl : k = 5 := by omega
        clear h
        have HCE : Hid (Bk.ev[5]? = some 111) := rfl
        go_wp2_with fail
        refine (stateBehind_any 4 111 _ HQ.out (by omega)).mono ?_
        rintro e w3 ⟨rfl, rfl⟩
        cases hst2 : Bk.step 4 111 with
        | none =>
          have HT : Hid (t = Bk.cs (Bk.many n) 4 (5 + 1)) := by unfold Hid; rw [Bk.cs_no HCE.out hst2]; exact Ht.out
          rw [behV_none hst2]
          clear hst2
          go_wp2_with fail
          go_roundw
          case rel => exact ⟨5 + 1, t, by omega, rfl, rfl, HT.out, HF.out, HC.out⟩
          case measure => simp [intOf]
        | some u =>
          have hu5 : u < 5 := Bk.step_lt hst2
          obtain ⟨hm0, hm1⟩ := Bk.many_small (n := n) (s := u) (by omega)
          have HT : Hid (t + Bk.many n u = Bk.cs (Bk.many n) 4 (5 + 1)) := by unfold Hid; rw [Bk.cs_yes HCE.out hst2, ← Ht.out]
          rw [behV_some hst2]
          clear hst2
          have hwr := i64w (x := t + Bk.many n u) (by omega) (by omega)
          go_wp2_with fail
          refine (IH.out u _ hu5 HF.out).mono ?_
          rintro e w3 ⟨rfl, hf3, hc3⟩
          have HF3 := Lib.hid hf3
          have HC3 : Hid (Chg (fun k => k ∈ bs) w w3) := HC.out.trans hc3 (fun _ _ h => h)
          clear hf3 hc3
          go_wp2_with fail
          go_roundw
          case rel => exact ⟨5 + 1, _, by omega, rfl, rfl, HT.out, HF3.out, HC3.out⟩
          case measure => simp [intOf]
      · obtain rfl : k = 6 := by omega
        clear h
        have HCE : Hid (Bk.ev[6]? = some 114) := rfl
        go_wp2_with fail
        refine (stateBehind_any 4 114 _ HQ.out (by omega)).mono ?_
        rintro e w3 ⟨rfl, rfl⟩
        cases hst2 : Bk.step 4 114 with
        | none =>
          have HT : Hid (t = Bk.cs (Bk.many n) 4 (6 + 1)) := by unfold Hid; rw [Bk.cs_no HCE.out hst2]; exact Ht.out
          rw [behV_none hst2]
          clear hst2
          go_wp2_with fail
          go_roundw
          case rel => exact ⟨6 + 1, t, by omega, rfl, rfl, HT.out, HF.out, HC.out⟩
          case measure => simp [intOf]
        | some u =>
          have hu5 : u < 5 := Bk.step_lt hst2
          obtain ⟨hm0, hm1⟩ := Bk.many_small (n := n) (s := u) (by omega)
          have HT : Hid (t + Bk.many n u = Bk.cs (Bk.many n) 4 (6 + 1)) := by unfold Hid; rw [Bk.cs_yes HCE.out hst2, ← Ht.out]
          rw [behV_some hst2]
          clear hst2
          have hwr := i64w (x := t + Bk.many n u) (by omega) (by omega)
          go_wp2_with fail
          refine (IH.out u _ hu5 HF.out).mono ?_
          rintro e w3 ⟨rfl, hf3, hc3⟩
          have HF3 := Lib.hid hf3
          have HC3 : Hid (Chg (fun k => k ∈ bs) w w3) := HC.out.trans hc3 (fun _ _ h => h)
          clear hf3 hc3
          go_wp2_with fail
          go_roundw
          case rel => exact ⟨6 + 1, _, by omega, rfl, rfl, HT.out, HF3.out, HC3.out⟩
          case measure => simp [intOf]
      · obtain rfl : k = 7 := by omega
        clear h
        have HE : Hid (Bk.many (n + 1) 4 = t) := Ht.out.symm
        have hgood : GoodM (n + 1) (bv (Bk.nd 4) (Bk.ins 4) (Bk.off 4)) (.int .i64 t) := ⟨4, HQ.out, rfl, by rw [HE.out]⟩
        have HGD := Lib.hid hgood
        clear hgood
        have hc0 := HF.out.cell _ _ HB.out
        go_wp2_with fail
        go_region_held3 (fun W => W.cell? ⟨fb, n + 1, none⟩ = some (.map (some b)))
          (first | exact hc0 | exact hc2 | exact HF4.out.cell _ _ HB.out)
          (first | (go_at_call 118; refine (passedB_any _).mono ?_; rintro e w2 ⟨rfl, hb2⟩; have hc2 := (hb2.cell (p := ⟨fb, n + 1, none⟩) (block_lt_of_cell hc0)).trans hc0; have HF2 := Lib.hid (Found.below (w := wr.drew) (by exact ⟨HF.out.cell, HF.out.memo⟩) hb2); have HC2 : Hid (Chg (fun k => k ∈ bs) w w2) := HC.out.drew.seq hb2; clear hb2; obtain ⟨w4, hrun4, hm4, hg4⟩ := (HF2.out.memo _ _ HB.out).store Try.keyedBlock Try.underlying77 HKEY.out HGD.out; have HF4 := Lib.hid (HF2.out.stored HA.out HB.out hm4 hg4); have HC4 := Lib.hid (chg_stored HC2.out HB.out hg4); clear hm4 hg4))
        all_goals go_wp2_with fail
        all_goals go_ret
        all_goals exact ⟨ret_int HE.out.symm, HF4.out, HC4.out⟩
  · have HL := Lib.hid hl
    clear hl
    rw [show stV 4 = Value.iface 106 (.agg #[]) from rfl]
    go_enter Try.func64, Try.ntmps64
    go_wp2_with fail
    go_region_held3 (fun W => W.cell? ⟨fb, n + 1, none⟩ = some (.map (some b)))
      (first | exact hc0 | exact hc2)
      (first | (go_at_call 118; refine (passedB_any _).mono ?_; rintro e w2 ⟨rfl, hb2⟩; have hc2 := (hb2.cell (p := ⟨fb, n + 1, none⟩) (block_lt_of_cell hc0)).trans hc0; have hrun := HL.out w2 (hb2.block b (HF.out.memo _ _ HB.out).lt); have HF2 := Lib.hid (Found.below (w := w.drew) (by exact ⟨HF.out.cell, HF.out.memo⟩) hb2); have HC2 : Hid (Chg (fun k => k ∈ bs) w w2) := (Chg.refl _ _).drew.seq hb2; clear hb2))
    all_goals go_wp2_with fail
    all_goals go_ret
    all_goals exact ⟨rfl, HF2.out, HC2.out⟩
theorem countTexts_any (fb N c : Nat) (bs : List Nat) (hN : N ≤ 31) (hbl : bs.length = N) (hA : Apart fb bs) : ∀ n, n < N → IHM fb N c bs n
  | 0, _, q, w, hq, hF => (countTexts_zero q fb N c w).mono (by rintro e w' ⟨rfl, rfl⟩; exact ⟨rfl, hF, Chg.refl _ _⟩)
  | n + 1, hn, q, w, hq, hF => by
    have ih := countTexts_any fb N c bs hN hbl hA n (by omega)
    rw [show (((n + 1 : Nat)) : Int) = (n : Int) + 1 by omega]
    have : q = 0 ∨ q = 1 ∨ q = 2 ∨ q = 3 ∨ q = 4 := by omega
    rcases this with rfl | rfl | rfl | rfl | rfl
    · exact countTexts_0 fb N c bs n hn hN hbl hA ih w hF
    · exact countTexts_1 fb N c bs n hn hN hbl hA ih w hF
    · exact countTexts_2 fb N c bs n hn hN hbl hA ih w hF
    · exact countTexts_3 fb N c bs n hn hN hbl hA ih w hF
    · exact countTexts_4 fb N c bs n hn hN hbl hA ih w hF
end Go.Proofs.Ytlneedjhdnjnpaa
