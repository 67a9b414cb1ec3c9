/-
  Contract: BlockMany of the program.
  Conditions: none.
-/
import Derived.Test.YtlneedjhdnjnpaaMany1
namespace Go.Proofs.Ytlneedjhdnjnpaa
open Go.RowKit
open Go.Maps (Keyed)
set_option linter.unusedVariables false
attribute [local go_sem ↓] Go.wp_at_zero Go.wp_at_succ run_eql_block run_neq_block

/-- What BlockMany returns. -/
def Bk.manyR (n : Int) (i o : Bool) (m : Int) : Int := match Bk.stOf n i o with | some s => (if 0 ≤ m ∧ m ≤ 30 then Bk.many m.toNat s else -1) | none => -1
theorem Bk.manyR_none {n : Int} {i o : Bool} (h : Bk.stOf n i o = none) (m : Int) : Bk.manyR n i o m = -1 := by unfold Bk.manyR; rw [h]
theorem Bk.manyR_out {m : Int} (h : ¬ (0 ≤ m ∧ m ≤ 30)) (n : Int) (i o : Bool) : Bk.manyR n i o m = -1 := by
  unfold Bk.manyR
  split
  · rw [if_neg h]
  · rfl
theorem Bk.manyR_in {n : Int} {i o : Bool} {s m : Nat} (h : Bk.stOf n i o = some s) (hm : m ≤ 30) : Bk.manyR n i o (m : Int) = Bk.many m s := by
  unfold Bk.manyR
  rw [h]
  simp only
  rw [if_pos (by omega)]
  rfl
theorem Try.infoMap : (Try.prog.info? 77).map (fun i => (i.zero, i.size, i.bytes)) = some (some (.map none), 1, 8) := by kernel_rfl
/-- The slice of maps as it is filled. -/
def mapV (bs : List Nat) (N : Nat) : List Value := bs.map (fun b => .map (some b)) ++ List.replicate (N - bs.length) (.map none)
theorem mapV_set {bs : List Nat} {N b : Nat} (h : bs.length < N) : (mapV bs N).set bs.length (.map (some b)) = mapV (bs ++ [b]) N := by
  unfold mapV
  rw [List.set_append_right _ _ (by simp), List.length_map, Nat.sub_self, List.map_append, List.length_append]
  obtain ⟨k, hk⟩ : ∃ k, N - bs.length = k + 1 := ⟨N - bs.length - 1, by omega⟩
  rw [hk, show N - (bs.length + [b].length) = k by simp; omega]
  simp [List.replicate_succ]
theorem mapV_at {bs : List Nat} {N m b : Nat} (h : bs[m]? = some b) : (mapV bs N)[m]? = some (.map (some b)) := by
  have hl : m < bs.length := (List.getElem?_eq_some_iff.1 h).1
  unfold mapV
  rw [List.getElem?_append_left (by simpa using hl), List.getElem?_map, h]
  rfl
/-- The maps that lie there already. -/
structure Filled (w : World) (fb : Nat) (bs : List Nat) : Prop where
  memo : ∀ m b, bs[m]? = some b → Memo w Try.prog 34 b (GoodM m)
  above : ∀ b ∈ bs, fb < b
  apart : ∀ (i j b : Nat), bs[i]? = some b → bs[j]? = some b → i = j
theorem Filled.nil (w : World) (fb : Nat) : Filled w fb [] := ⟨fun m b h => by simp at h, fun b h => by simp at h, fun i j b h => by simp at h⟩
theorem Filled.lt {w : World} {fb : Nat} {bs : List Nat} (h : Filled w fb bs) {b : Nat} (hb : b ∈ bs) : b < w.heap.size := by
  obtain ⟨m, hm⟩ := List.mem_iff_getElem?.1 hb
  exact (h.memo m b hm).lt
theorem Memo.set {w : World} {P : Program} {k : TypeId} {b : Nat} {Good : Value → Value → Prop} (h : Memo w P k b Good) (p : Addr) (hp : b ≠ p.block) (u : Value) : Memo (w.setCell p u) P k b Good := by
  obtain ⟨es, clock, hb, H⟩ := h
  exact ⟨es, clock, (heap_setCell_other w p b u hp).trans hb, H⟩
theorem Filled.push {w : World} {fb : Nat} {bs : List Nat} (h : Filled w fb bs) (hfb : fb < w.heap.size) (k : Nat) (u : Value) : Filled ((w.setCell ⟨fb, k, none⟩ u).alloc (.map #[] 0)) fb (bs ++ [w.heap.size]) := by
  have hat : ∀ m b, (bs ++ [w.heap.size])[m]? = some b → (m < bs.length ∧ bs[m]? = some b) ∨ (m = bs.length ∧ b = w.heap.size) := by
    intro m b hm
    by_cases hl : m < bs.length
    · rw [List.getElem?_append_left hl] at hm
      exact .inl ⟨hl, hm⟩
    · rw [List.getElem?_append_right (by omega)] at hm
      have h1 : m - bs.length = 0 := by
        have := (List.getElem?_eq_some_iff.1 hm).1
        simp at this
        omega
      rw [h1] at hm
      simp at hm
      exact .inr ⟨by omega, hm.symm⟩
  refine ⟨fun m b hm => ?_, fun b hb => ?_, fun i j b hi hj => ?_⟩
  · rcases hat m b hm with ⟨_, hm⟩ | ⟨rfl, rfl⟩
    · exact ((h.memo m b hm).set _ (by have := h.above b (List.mem_of_getElem? hm); show b ≠ fb; omega) _).below ((Below.refl _ _).alloc (Nat.le_refl _) _)
    · have := Memo.made (w.setCell ⟨fb, k, none⟩ u) Try.prog 34 (GoodM bs.length)
      simpa using this
  · rcases List.mem_append.1 hb with hb | hb
    · exact h.above b hb
    · simp at hb; subst hb; exact hfb
  · rcases hat i b hi with ⟨_, hi⟩ | ⟨rfl, rfl⟩ <;> rcases hat j _ hj with ⟨_, hj⟩ | ⟨rfl, e⟩
    · exact h.apart i j b hi hj
    · have := h.lt (List.mem_of_getElem? hi); omega
    · have := h.lt (List.mem_of_getElem? hj); omega
    · rfl
set_option maxRecDepth 100000 in
set_option maxHeartbeats 8000000 in
theorem implBlockMany_any (n : Int) (i o : Bool) (m : Int) (w : World) :
    Calls Try.prog 33 #[bv n i o, .int .i64 m] w fun e w' => e = .returned (.int .i64 (Bk.manyR n i o m)) ∧ Below w.heap.size w w' := by
  cases hst : Bk.stOf n i o with
  | none =>
    have HE := Lib.hid (instV_none hst)
    have HN := Lib.hid (Bk.manyR_none hst m)
    clear hst
    go_enter Try.func33, Try.ntmps33
    go_wp2_with fail
    refine (instrumentOf_any _ _ _ _).mono ?_
    rintro e w1 ⟨rfl, hb1⟩
    have Hb1 := Lib.hid hb1
    clear hb1
    rw [HE.out]
    go_wp2_with fail
    go_ret
    exact ⟨by rw [HN.out]; rfl, below_seq ((Below.refl w.heap.size w).alloc (Nat.le_refl _) _) Hb1.out⟩
  | some q =>
    have HE := Lib.hid (instV_some hst)
    have HST := Lib.hid hst
    have hq5 : q < 5 := (Bk.stOf_lt hst).1
    clear hst
    by_cases h0 : 0 ≤ m
    · by_cases h30 : m ≤ 30
      · obtain ⟨N, rfl⟩ : ∃ N : Nat, m = N := ⟨m.toNat, by omega⟩
        have HN := Lib.hid (Bk.manyR_in HST.out (show N ≤ 30 by omega))
        have d1 : decide ((N : Int) < 0) = false := decide_eq_false (by omega)
        have d2 : decide ((30 : Int) < (N : Int)) = false := decide_eq_false (by omega)
        have hN30 : N ≤ 30 := by omega
        obtain ⟨M, hM⟩ : ∃ M, M = N + 1 := ⟨_, rfl⟩
        have hw1 : IntKind.i64.wrap ((N : Int) + 1) = (M : Int) := by rw [i64w (by omega) (by omega)]; omega
        have hM31 : M ≤ 31 := by omega
        have HM := Lib.hid hM
        clear h0 h30 hM
        obtain ⟨i0, hi, hz0, hz1, hz2⟩ := info_parts Try.infoMap
        have hmm := @run_makeMap Try.prog
        go_enter Try.func33, Try.ntmps33
        go_wp2_with fail
        refine (instrumentOf_any _ _ _ _).mono ?_
        rintro e w1 ⟨rfl, hb1⟩
        have Hb1 : Hid (Below w.heap.size w w1) := below_seq ((Below.refl w.heap.size w).alloc (Nat.le_refl _) _) hb1
        clear hb1
        rw [HE.out]
        go_wp2_with (at_make; refine wpList_make_full _ rfl _ _ 76 rfl w1.heap.size 77 i0 (.map none) 1 Try.underlying76 hi hz0 hz1 _ _ _ _ M rfl rfl rfl rfl ?b2 ?b3 ?b4 ?_)
        case b2 => rw [hz2]; have := HM.out; omega
        case b3 => unfold maxLen; have := HM.out; omega
        case b4 => exact Nat.le_refl _
        clear hi hz0 hz1 hz2
        intro w2 hown hgrow
        rw [toList_madeCells_one] at hown
        have HB2 : Hid (Below w.heap.size w w2) := below_grown Hb1.out hgrow Hb1.out.size (fun k h => by cases h)
        have HO : Hid (w2.ownsRow w1.heap.size 77 1 (.slice (some ⟨w1.heap.size, 0, none⟩) M M) M (mapV [] M)) := by
          have := hown; unfold Hid mapV; simpa using this
        clear hown hgrow
        go_wp2_with fail
        go_loopw [29] (fun i wr => ∃ k : Nat, k ≤ M ∧ i = .int .i64 k ∧ Hid (∃ bs : List Nat, bs.length = k ∧ wr.ownsRow w1.heap.size 77 1 (.slice (some ⟨w1.heap.size, 0, none⟩) M M) M (mapV bs M) ∧ Filled wr w1.heap.size bs) ∧ Hid (Below w.heap.size w wr)) (fun i _ => M - (intOf i).toNat)
        case atStart => exact ⟨0, Nat.zero_le _, rfl, ⟨[], rfl, HO.out, Filled.nil _ _⟩, HB2⟩
        case round =>
          clear HO HB2
          obtain ⟨k, hk, rfl, Ho, Hb⟩ := hrel
          obtain ⟨bs, hbl, hown, hfil⟩ := Ho.out
          clear Ho
          by_cases hlt : k < M
          · have hst : (wr.alloc (.map #[] 0)).cell? ⟨w1.heap.size, k, none⟩ = some (.map none) := by
              rw [(hown.alloc _).cellAt k (by omega)]
              unfold mapV
              rw [List.getElem?_append_right (by simp; omega), List.getElem?_replicate, if_pos (by simp; omega)]
            have hfz : (wr.alloc (.map #[] 0)).frozen? ⟨w1.heap.size, k, none⟩ = false := (hown.alloc _).frozenAt k
            have hfb : w1.heap.size < wr.heap.size := (hown.lt _ rfl).2
            have HFb := Lib.hid hfb
            have HOwn := Lib.hid hown
            have HFil := Lib.hid hfil
            have HBl := Lib.hid hbl
            clear hown hfil hbl
            go_wp2_with fail
            go_roundw
            case rel =>
              refine ⟨k + 1, by omega, by go_num, ⟨bs ++ [wr.heap.size], by simp [HBl.out], ?_, HFil.out.push HFb.out _ _⟩, (Hb.out.setCell Hb1.out.size _).alloc (by simpa using Hb.out.size) _⟩
              rw [← mapV_set (by rw [HBl.out]; exact hlt), HBl.out]
              exact ((HOwn.out.stored k _).1).alloc _
            case measure => simp [intOf]; omega
          · obtain rfl : k = M := by omega
            have HA : Hid (Apart w1.heap.size bs) := ⟨fun h => absurd (hfil.above _ h) (by omega), hfil.apart⟩
            have HF : Hid (Found wr w1.heap.size bs) := ⟨fun m b hm => by
              have hl : m < bs.length := (List.getElem?_eq_some_iff.1 hm).1
              rw [hown.cellAt m (by omega)]
              exact mapV_at hm, hfil.memo⟩
            have HL : Hid (∀ x, x ∈ bs → w1.heap.size ≤ x) := fun x hx => Nat.le_of_lt (hfil.above x hx)
            have HBl := Lib.hid hbl
            have hsz := (hown.lt _ rfl).2
            have HSZ := Lib.hid hsz
            clear hown hfil hbl hsz
            go_wp2_with fail
            refine (countTexts_any w1.heap.size k k bs (by have := HM.out; omega) HBl.out HA.out N (by have := HM.out; omega) q _ hq5 HF.out).mono ?_
            rintro e w3 ⟨rfl, hf3, hc3⟩
            have HC3 := Lib.hid hc3
            clear hf3 hc3
            go_wp2_with fail
            go_ret
            refine ⟨by rw [HN.out]; rfl, Hb.out.trans (HC3.out.below (fun x _ hx => ?_) ?_)⟩
            · exact Nat.le_trans Hb1.out.size (HL.out x hx)
            · exact Nat.le_of_lt (Nat.lt_of_le_of_lt Hb1.out.size HSZ.out)
      · have HN := Lib.hid (Bk.manyR_out (m := m) (by omega) n i o)
        have d1 : decide (m < 0) = false := decide_eq_false (by omega)
        have d2 : decide ((30 : Int) < m) = true := decide_eq_true (by omega)
        clear h0 h30
        go_enter Try.func33, Try.ntmps33
        go_wp2_with fail
        refine (instrumentOf_any _ _ _ _).mono ?_
        rintro e w1 ⟨rfl, hb1⟩
        have Hb1 := Lib.hid hb1
        clear hb1
        rw [HE.out]
        go_wp2_with fail
        go_ret
        exact ⟨by rw [HN.out]; rfl, below_seq ((Below.refl w.heap.size w).alloc (Nat.le_refl _) _) Hb1.out⟩
    · have HN := Lib.hid (Bk.manyR_out (m := m) (by omega) n i o)
      have d1 : decide (m < 0) = true := decide_eq_true (by omega)
      clear h0
      go_enter Try.func33, Try.ntmps33
      go_wp2_with fail
      refine (instrumentOf_any _ _ _ _).mono ?_
      rintro e w1 ⟨rfl, hb1⟩
      have Hb1 := Lib.hid hb1
      clear hb1
      rw [HE.out]
      go_wp2_with fail
      go_ret
      exact ⟨by rw [HN.out]; rfl, below_seq ((Below.refl w.heap.size w).alloc (Nat.le_refl _) _) Hb1.out⟩
end Go.Proofs.Ytlneedjhdnjnpaa
