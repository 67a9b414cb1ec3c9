/-
  Contract of LineOrder of the reference.
  Conditions: a slice that is not nil, of at most 2^20 moves.
-/
import Derived.Test.YtmplanlppjebnaaSort7
namespace Go.Proofs.Ytmplanlppjebnaa
open Go.RowKit
set_option linter.unusedVariables false
set_option linter.unusedSimpArgs false
attribute [local go_sem ↓] Go.wp_at_zero Go.wp_at_succ

namespace So
/-- Sorted by sections. -/
abbrev Srt (zs : List Mv) : Prop := zs.Pairwise fun p q => p.1 ≤ q.1
theorem srt_seg {zs : List Mv} {n : Nat} (h : Srt zs) : Seg zs 0 n := by
  intro i j p q _ h2 _ hp hq
  obtain ⟨hi, rfl⟩ := List.getElem?_eq_some_iff.1 hp
  obtain ⟨hj, rfl⟩ := List.getElem?_eq_some_iff.1 hq
  rcases Nat.lt_or_eq_of_le h2 with h9 | h9
  · exact List.pairwise_iff_getElem.1 h i j hi hj h9
  · subst h9; exact Int.le_refl _
theorem put_srt {zs : List Mv} {x : Mv} {t : Nat} (h : Srt zs) (hb : ∀ q ∈ zs.drop t, x.1 < q.1) (ha : ∀ p ∈ zs.take t, p.1 ≤ x.1) : Srt (zs.take t ++ x :: zs.drop t) := by
  have h0 : Srt (zs.take t ++ zs.drop t) := by rw [List.take_append_drop]; exact h
  obtain ⟨h1, h2, h3⟩ := List.pairwise_append.1 h0
  refine List.pairwise_append.2 ⟨h1, List.pairwise_cons.2 ⟨fun q hq => Int.le_of_lt (hb q hq), h2⟩, fun p hp q hq => ?_⟩
  rcases List.mem_cons.1 hq with rfl | hq
  · exact ha p hp
  · exact h3 p hp q hq
theorem put_stab {xs zs : List Mv} {x : Mv} {i t : Nat} (hx : xs[i]? = some x) (h : Stab (xs.take i) zs) (hb : ∀ q ∈ zs.drop t, x.1 < q.1) : Stab (xs.take (i + 1)) (zs.take t ++ x :: zs.drop t) := by
  have hi : i < xs.length := (List.getElem?_eq_some_iff.1 hx).1
  have hl : zs.length = i := by rw [h.1, List.length_take]; omega
  refine ⟨by simp; omega, fun k => ?_⟩
  have e : xs.take (i + 1) = xs.take i ++ [x] := by
    obtain ⟨_, rfl⟩ := List.getElem?_eq_some_iff.1 hx
    exact List.take_succ_eq_append_getElem hi
  have hz : fk k zs = fk k (zs.take t) ++ fk k (zs.drop t) := by rw [← fk_append, List.take_append_drop]
  rw [e, fk_append k (zs.take t), fk_append k (xs.take i), ← h.2 k, hz, List.append_assoc]
  congr 1
  by_cases hk : x.1 = k
  · have hn : fk k (zs.drop t) = [] := by
      unfold fk
      rw [List.filter_eq_nil_iff]
      intro q hq hqk
      have := hb q hq
      simp at hqk
      omega
    have e2 : fk k (x :: zs.drop t) = [x] := by
      have : fk k (x :: zs.drop t) = x :: fk k (zs.drop t) := by unfold fk; rw [List.filter_cons_of_pos (by simp [hk])]
      rw [this, hn]
    have e3 : fk k [x] = [x] := by unfold fk; simp [hk]
    rw [e2, hn, List.nil_append, e3]
  · have e2 : fk k (x :: zs.drop t) = fk k (zs.drop t) := by unfold fk; rw [List.filter_cons_of_neg (by simp [hk])]
    have e3 : fk k [x] = [] := by unfold fk; simp [hk]
    rw [e2, e3, List.append_nil]
theorem take_le {zs : List Mv} {x y : Mv} {t : Nat} (h : Srt zs) (hy : zs[t]? = some y) (hxy : y.1 ≤ x.1) : ∀ p ∈ zs.take (t + 1), p.1 ≤ x.1 := by
  intro p hp
  obtain ⟨j, hj⟩ := List.mem_iff_getElem?.1 hp
  rw [List.getElem?_take] at hj
  split at hj
  · have := srt_seg (n := zs.length) h j t p y (Nat.zero_le _) (by omega) (List.getElem?_eq_some_iff.1 hy).1 hj hy
    omega
  · cases hj
theorem drop_gt {zs : List Mv} {x y : Mv} {t : Nat} (hy : zs[t]? = some y) (hxy : x.1 < y.1) (hb : ∀ q ∈ zs.drop (t + 1), x.1 < q.1) : ∀ q ∈ zs.drop t, x.1 < q.1 := by
  intro q hq
  obtain ⟨ht, rfl⟩ := List.getElem?_eq_some_iff.1 hy
  rw [List.drop_eq_getElem_cons ht] at hq
  rcases List.mem_cons.1 hq with rfl | hq
  · exact hxy
  · exact hb q hq
end So
theorem flat_take (xs : List Mv) (t : Nat) : ∀ (j : Nat) (u : Value), (flat (xs.take t))[j]? = some u → (flat xs)[j]? = some u := by
  intro j u hu
  have e : flat xs = flat (xs.take t) ++ flat (xs.drop t) := by rw [← flat_append, List.take_append_drop]
  rw [e, List.getElem?_append_left (List.getElem?_eq_some_iff.1 hu).1]
  exact hu
theorem flat_drop (xs : List Mv) (t : Nat) (ht : t ≤ xs.length) : ∀ (j : Nat) (u : Value), (flat (xs.drop t))[j]? = some u → (flat xs)[t * 2 + j]? = some u := by
  intro j u hu
  have e : flat xs = flat (xs.take t) ++ flat (xs.drop t) := by rw [← flat_append, List.take_append_drop]
  have l : (flat (xs.take t)).length = t * 2 := by rw [flat_len, List.length_take]; omega
  rw [e, List.getElem?_append_right (by omega), l, show t * 2 + j - t * 2 = j by omega]
  exact hu
theorem own_some2 {w : World} {base n : Nat} {e : TypeId} {v : Value} {xs : List Value} (h : w.ownsRow base e 2 v n xs) (hv : v ≠ .slice none 0 0) : ∃ g c, v = .slice (some ⟨g, 0, none⟩) n c ∧ base ≤ g ∧ g < w.heap.size ∧ n ≤ c := by
  have hlt := h.lt
  rcases h.2 with ⟨rfl, _⟩ | ⟨g, cap, cur, rfl, hb, hg, hnc, _⟩
  · exact absurd rfl hv
  · exact ⟨g, cap, rfl, hb, (hlt g rfl).2, hnc⟩
theorem cell_two (w : World) (v0 v1 : Value) (t : TypeId) : ∀ (j : Nat) (u : Value), [v0, v1][j]? = some u → (w.alloc (.cells #[v0, v1] t)).cell? ((⟨w.heap.size, 0, none⟩ : Addr).add j) = some u := by
  intro j u hj
  match j, hj with
  | 0, hj => simp at hj; subst hj; simp [Addr.add, go_sem]
  | 1, hj => simp at hj; subst hj; simp [Addr.add, go_sem]
set_option maxRecDepth 100000 in
set_option maxHeartbeats 8000000 in
theorem specLineOrder_any (b off n c : Nat) (xs : List Mv) (w : World) (hx : RdV w (some ⟨b, off, none⟩) n xs) (hn : n ≤ 1048576) :
    Calls Try.prog 10 #[.slice (some ⟨b, off, none⟩) n c] w (OrdP n xs w) := by
  have HX := Lib.hid hx
  have HXL := Lib.hid hx.len
  obtain ⟨i0, hi, hz0, hz1, hz2⟩ := info_parts Try.infoMove
  have HI := Lib.hid (And.intro hi (And.intro hz0 (And.intro hz1 hz2)))
  have H0 : Hid ((w.alloc (.cells #[] 28)).ownsRow w.heap.size 28 2 (.slice (some ⟨w.heap.size, 0, none⟩) 0 0) 0 []) := World.ownsRow_lit w #[] 0 (Nat.le_refl _) (by unfold maxLen; omega) rfl
  clear hx hi hz0 hz1 hz2
  go_enter Try.func10, Try.ntmps10
  go_wp2_with fail
  go_loopw [3, 4] (fun o v wr => ∃ i g d : Nat, i ≤ n ∧ i ≤ d ∧ v = .int .i64 i ∧ o = .slice (some ⟨g, 0, none⟩) i d ∧ Hid (∃ zs, So.Stab (xs.take i) zs ∧ So.Srt zs ∧ wr.ownsRow w.heap.size 28 2 (.slice (some ⟨g, 0, none⟩) i d) i (flat zs)) ∧ Hid (Below w.heap.size w wr)) (fun _ v _ => n - (intOf v).toNat)
  case atStart => exact ⟨0, w.heap.size, 0, Nat.zero_le _, Nat.le_refl _, rfl, rfl, ⟨[], So.Stab.refl _, List.Pairwise.nil, H0.out⟩, (Below.refl _ _).alloc (Nat.le_refl _) _⟩
  case round =>
    clear H0
    obtain ⟨i, g, d, hin, hid, rfl, rfl, Hz, Hb⟩ := hrel
    obtain ⟨zs, h1, h2, h3⟩ := Hz.out
    have HZ := Lib.hid (And.intro h1 h2)
    have HOW := Lib.hid h3
    have hzl : zs.length = i := by have := h3.1; rw [flat_len] at this; omega
    have HZL := Lib.hid hzl
    clear h1 h2 h3 Hz hzl
    by_cases hlt : i < n
    · obtain ⟨b', off', x, e0, hxi, hd0, hd1⟩ := HX.out.at_ hlt
      simp only [Option.some.injEq, Addr.mk.injEq, and_true] at e0
      obtain ⟨rfl, rfl⟩ := e0
      have HXI := Lib.hid hxi
      have HC0 : Hid (wr.cell? ⟨b, off + i * 2, none⟩ = some (.int .i64 x.1) ∧ wr.cell? ⟨b, off + i * 2 + 1, none⟩ = some (.string x.2)) := ⟨(Hb.out.cell (block_lt_of_cell hd0)).trans hd0, (Hb.out.cell (block_lt_of_cell hd1)).trans hd1⟩
      clear hxi hd0 hd1
      go_wp2_with fail
      obtain ⟨wo, rfl⟩ : ∃ wo : World, wo = wr := ⟨_, rfl⟩
      go_loopw [5] (fun v wq => ∃ t : Nat, t ≤ i ∧ v = .int .i64 t ∧ Hid (∀ q ∈ zs.drop t, x.1 < q.1) ∧ Hid (∃ m, wq = wo.drewN m)) (fun v _ => (intOf v).toNat)
      case atStart => exact ⟨i, Nat.le_refl _, rfl, by intro q hq; rw [List.drop_of_length_le (by rw [HZL.out]; exact Nat.le_refl _)] at hq; simp at hq, 0, rfl⟩
      case round =>
        obtain ⟨t, hti, rfl, HT, Hm⟩ := hrel
        obtain ⟨m, rfl⟩ := Hm.out
        have fin : ∀ (hle : ∀ p ∈ zs.take t, p.1 ≤ x.1), Hid (So.Stab (xs.take (i + 1)) (zs.take t ++ x :: zs.drop t) ∧ So.Srt (zs.take t ++ x :: zs.drop t)) := fun hle => ⟨So.put_stab HXI.out HZ.out.1 HT.out, So.put_srt HZ.out.2 HT.out hle⟩
        have FIN := Lib.hid fin
        clear fin
        have HB1 : Hid (Below w.heap.size w (wo.drewN m)) := below_drewN Hb.out m
        have HO1 : Hid ((wo.drewN m).ownsRow w.heap.size 28 2 (.slice (some ⟨g, 0, none⟩) i d) i (flat zs)) := HOW.out
        have HC1 : Hid ((wo.drewN m).cell? ⟨b, off + i * 2, none⟩ = some (.int .i64 x.1) ∧ (wo.drewN m).cell? ⟨b, off + i * 2 + 1, none⟩ = some (.string x.2)) := HC0.out
        have HEX : Hid (∀ k, ∃ m', (wo.drewN m).drewN k = wo.drewN m') := fun k => ex_drew wo m k
        generalize wo.drewN m = w1 at HB1 HO1 HC1 HEX ⊢
        obtain ⟨c0, c1⟩ := HC1.out
        by_cases ht : 0 < t
        · obtain ⟨tp, rfl⟩ : ∃ tp, t = tp + 1 := ⟨t - 1, by omega⟩
          obtain ⟨y, hy⟩ : ∃ y, zs[tp]? = some y := ⟨_, List.getElem?_eq_getElem (by have := HZL.out; omega)⟩
          obtain ⟨d0, d1, _, _⟩ := own_at2 HO1.out hy
          have htz : (0 : Int) < (tp : Int) + 1 := by omega
          have hwp : IntKind.i64.wrap (tp : Int) = (tp : Int) := IntWalk.i64_in _ (by omega)
          have j0 : (0 : Int) ≤ (tp : Int) := by omega
          have j1 : (tp : Int) < i := by omega
          have j2 : (0 : Int) ≤ (i : Int) := by omega
          have j3 : (i : Int) < n := by omega
          have HY := Lib.hid hy
          clear hy
          by_cases hxy : x.1 < y.1
          · have hcd : decide (x.1 < y.1) = true := decide_eq_true hxy
            have HT2 : Hid (∀ q ∈ zs.drop tp, x.1 < q.1) := So.drop_gt HY.out hxy HT.out
            clear FIN
            go_wp2_with fail
            go_quiet (fail)
            go_wp2_with fail
            go_roundw
            case rel => exact ⟨tp, by omega, by go_num, HT2, HEX.out _⟩
            case measure => simp [intOf]
          · have hcd : decide (x.1 < y.1) = false := decide_eq_false hxy
            have HF := FIN.out (So.take_le HZ.out.2 HY.out (by omega))
            clear FIN
            go_wp2_with fail
            go_quiet (fail)
            have HB2 : Hid (Below w.heap.size w (w1.drewN nq)) := below_drewN HB1.out nq
            have HO2 : Hid ((w1.drewN nq).ownsRow w.heap.size 28 2 (.slice (some ⟨g, 0, none⟩) i d) i (flat zs)) := HO1.out
            have HC2 : Hid ((w1.drewN nq).cell? ⟨b, off + i * 2, none⟩ = some (.int .i64 x.1) ∧ (w1.drewN nq).cell? ⟨b, off + i * 2 + 1, none⟩ = some (.string x.2)) := HC1.out
            generalize w1.drewN nq = w2 at HB2 HO2 HC2 ⊢
            clear HB1 HO1 HC1 c0 c1 HEX
            obtain ⟨T, hT, hTi⟩ : ∃ T : Nat, T = (tp + 1) ∧ T ≤ i := ⟨(tp + 1), rfl, by omega⟩
            have HFT : Hid (So.Stab (xs.take (i + 1)) (zs.take T ++ x :: zs.drop T) ∧ So.Srt (zs.take T ++ x :: zs.drop T)) := by rw [hT]; exact HF.out
            have hTq : (tp : Int) + 1 = (T : Int) := by omega
            have hTd : (T : Int) ≤ d := by omega
            have hTi2 : (T : Int) ≤ i := by omega
            have hT0 : (0 : Int) ≤ (T : Int) := by omega
            obtain ⟨hi, hz0, hz1, hz2⟩ := HI.out
            have hg2 : g < w2.heap.size := (HO2.out.lt g rfl).2
            have hw2 : w.heap.size ≤ w2.heap.size := HB2.out.size
            have hnew : (w2.alloc (.cells #[] 28)).ownsRow w2.heap.size 28 2 (.slice (some ⟨w2.heap.size, 0, none⟩) 0 0) 0 [] := World.ownsRow_lit w2 #[] 0 (Nat.le_refl _) (by unfold maxLen; omega) rfl
            have hcs : ∀ j u, (flat (zs.take T))[j]? = some u → (w2.alloc (.cells #[] 28)).cell? ((⟨g, 0, none⟩ : Addr).add j) = some u := fun j u hu => (HO2.out.alloc _).cells (g := g) rfl j u (flat_take zs T j u hu)
            have HCS := Lib.hid hcs
            clear hcs hT
            go_wp2_with (at_builtin; refine wpList_append_own _ rfl _ _ 23 rfl w2.heap.size 28 i0 (.agg #[.int .i64 0, .string ⟨#[]⟩]) 2 24 Try.underlying23 hi hz0 hz1 hz2 rfl (by decide) _ _ _ rfl hnew ⟨g, 0, none⟩ T d (flat (zs.take T)) rfl ?c2 HCS.out (flat_cell1 _) ?c3 ?c4 ?c5 ?_)
            case c2 => rw [flat_len, List.length_take, HZL.out]; omega
            case c3 => unfold maxLen; omega
            case c4 => omega
            case c5 => simp
            intro v3 w3 hown3 hgrow3 hv3
            have hv3' : v3 ≠ .slice none 0 0 := by simpa using hv3
            try rw [List.nil_append] at hown3
            try rw [Nat.zero_add] at hown3
            obtain ⟨g3, d3, rfl, hb3, hl3, hd3⟩ := own_some2 hown3 hv3'
            have hs3 : w2.heap.size + 1 ≤ w3.heap.size := by have := hgrow3.size; simpa using this
            have HO3 : Hid (w3.ownsRow w2.heap.size 28 2 (.slice (some ⟨g3, 0, none⟩) T d3) T (flat (zs.take T))) := hown3
            have HR3 : Hid (w3.ownsRow w.heap.size 28 2 (.slice (some ⟨g, 0, none⟩) i d) i (flat zs)) := own_kept (HO2.out.alloc _) hgrow3 (fun a r e1 e2 => by have h1 : g = a := Option.some.inj e1; have h2 : w2.heap.size = r := Option.some.inj e2; omega)
            have HB3 : Hid (Below w.heap.size w w3) := (HB2.out.alloc HB2.out.size _).grown hgrow3 (by simp; have := HB2.out.size; omega) (fun k h => by cases h; exact HB2.out.size)
            obtain ⟨b9, off9, x9, e9, hx9, c0, c1⟩ := (HX.out.below HB3.out).at_ hlt
            simp only [Option.some.injEq, Addr.mk.injEq, and_true] at e9
            obtain ⟨rfl, rfl⟩ := e9
            have ex9 : x9 = x := by have := HXI.out; rw [hx9] at this; exact Option.some.inj this
            rw [ex9] at c0 c1
            clear hx9 ex9 hown3 hgrow3 hv3 hv3' hnew HCS HB2 HO2 HC2
            have hown3b := HO3.out.alloc (.cells #[.int .i64 x.1, .string x.2] 28)
            go_wp2_with (at_builtin; refine wpList_append_own _ rfl _ _ 23 rfl w2.heap.size 28 i0 (.agg #[.int .i64 0, .string ⟨#[]⟩]) 2 24 Try.underlying23 hi hz0 hz1 hz2 rfl (by decide) _ _ _ rfl hown3b ⟨w3.heap.size, 0, none⟩ 1 1 [.int .i64 x.1, .string x.2] rfl rfl (cell_two _ _ _ _) (by intro u hu; simp at hu; rcases hu with rfl | rfl <;> rfl) ?c3 ?c4 ?c5 ?_)
            case c3 => unfold maxLen; omega
            case c4 => omega
            case c5 => simp; omega
            intro v4 w4 hown4 hgrow4 hv4
            have hv4' : v4 ≠ .slice none 0 0 := by simpa using hv4
            have e4 : flat (zs.take T) ++ [.int .i64 x.1, .string x.2] = flat (zs.take T ++ [x]) := by rw [flat_append]; rfl
            rw [e4] at hown4
            obtain ⟨g4, d4, rfl, hb4, hl4, hd4⟩ := own_some2 hown4 hv4'
            have hs4 : w3.heap.size + 1 ≤ w4.heap.size := by have := hgrow4.size; simpa using this
            have HO4 : Hid (w4.ownsRow w2.heap.size 28 2 (.slice (some ⟨g4, 0, none⟩) (T + 1) d4) (T + 1) (flat (zs.take T ++ [x]))) := hown4
            have HR4 : Hid (w4.ownsRow w.heap.size 28 2 (.slice (some ⟨g, 0, none⟩) i d) i (flat zs)) := own_kept (HR3.out.alloc _) hgrow4 (fun a r e1 e2 => by have h1 : g = a := Option.some.inj e1; have h2 : g3 = r := Option.some.inj e2; omega)
            have hbz : w.heap.size ≤ w3.heap.size := HB3.out.size
            have HB4 : Hid (Below w.heap.size w w4) := (HB3.out.alloc HB3.out.size _).grown hgrow4 (by simp; omega) (fun k h => by have h2 : g3 = k := Option.some.inj h; omega)
            clear hown4 hgrow4 hv4 hv4' hown3b e4 HO3 HR3 HB3 c0 c1
            have hown4b := HO4.out
            by_cases hdT : d = T
            · have hcs4 : ∀ j u, (flat (zs.drop T))[j]? = some u → w4.cell? ((⟨g, 0, none⟩ : Addr).add j) = some u := fun j u hu => by
                rw [List.drop_of_length_le (by rw [HZL.out]; omega)] at hu
                simp [flat] at hu
              have HCS4 := Lib.hid hcs4
              clear hcs4
              go_wp2_with (at_builtin; refine wpList_append_own _ rfl _ _ 23 rfl w2.heap.size 28 i0 (.agg #[.int .i64 0, .string ⟨#[]⟩]) 2 24 Try.underlying23 hi hz0 hz1 hz2 rfl (by decide) _ _ _ rfl hown4b ⟨g, 0, none⟩ _ _ (flat (zs.drop T)) rfl ?c2 HCS4.out (flat_cell1 _) ?c3 ?c4 ?c5 ?_)
              case c2 => rw [flat_len, List.length_drop, HZL.out] <;> (try omega)
              case c3 => unfold maxLen; omega
              case c4 => omega
              case c5 => omega
              intro v5 w5 hown5 hgrow5 hv5
              have hv5' : v5 ≠ .slice none 0 0 := by simpa using hv5
              have e6 : flat (zs.take T ++ [x]) ++ flat (zs.drop T) = flat (zs.take T ++ x :: zs.drop T) := by rw [← flat_append, List.append_assoc]; rfl
              rw [e6] at hown5
              first | rw [show T + 1 + (i - T) = i + 1 by omega] at hown5 | rw [show T + 1 + 0 = i + 1 by omega] at hown5 | rw [show T + 1 = i + 1 by omega] at hown5
              obtain ⟨g5, d5, rfl, hb5, hl5, hd5⟩ := own_some2 hown5 hv5'
              have HO5 : Hid (w5.ownsRow w.heap.size 28 2 (.slice (some ⟨g5, 0, none⟩) (i + 1) d5) (i + 1) (flat (zs.take T ++ x :: zs.drop T))) := own_base hown5 (by omega)
              have HB5 : Hid (Below w.heap.size w w5) := HB4.out.grown hgrow5 HB4.out.size (fun k h => by have h2 : g4 = k := Option.some.inj h; omega)
              clear hown5 hgrow5 hv5 hv5' hown4b e6 HO4 HR4 HB4 HCS4 hi hz0 hz1 hz2
              go_wp2_with fail
              go_roundw
              case rel => exact ⟨i + 1, g5, d5, by omega, hd5, by go_num, rfl, ⟨_, HFT.out.1, HFT.out.2, HO5.out⟩, HB5.out⟩
              case measure => simp [intOf]; omega
            · have hcs4 : ∀ j u, (flat (zs.drop T))[j]? = some u → w4.cell? ((⟨g, T * 2, none⟩ : Addr).add j) = some u := fun j u hu => by
                have := HR4.out.cells (g := g) rfl (T * 2 + j) u (flat_drop zs T (by rw [HZL.out]; exact hTi) j u hu)
                rw [Addr.add_lit] at this ⊢
                simpa using this
              have HCS4 := Lib.hid hcs4
              clear hcs4
              go_wp2_with (at_builtin; refine wpList_append_own _ rfl _ _ 23 rfl w2.heap.size 28 i0 (.agg #[.int .i64 0, .string ⟨#[]⟩]) 2 24 Try.underlying23 hi hz0 hz1 hz2 rfl (by decide) _ _ _ rfl hown4b ⟨g, T * 2, none⟩ (i - T) (d - T) (flat (zs.drop T)) rfl ?c2 HCS4.out (flat_cell1 _) ?c3 ?c4 ?c5 ?_)
              case c2 => rw [flat_len, List.length_drop, HZL.out] <;> (try omega)
              case c3 => unfold maxLen; omega
              case c4 => omega
              case c5 => omega
              intro v5 w5 hown5 hgrow5 hv5
              have hv5' : v5 ≠ .slice none 0 0 := by simpa using hv5
              have e6 : flat (zs.take T ++ [x]) ++ flat (zs.drop T) = flat (zs.take T ++ x :: zs.drop T) := by rw [← flat_append, List.append_assoc]; rfl
              rw [e6] at hown5
              first | rw [show T + 1 + (i - T) = i + 1 by omega] at hown5 | rw [show T + 1 + 0 = i + 1 by omega] at hown5 | rw [show T + 1 = i + 1 by omega] at hown5
              obtain ⟨g5, d5, rfl, hb5, hl5, hd5⟩ := own_some2 hown5 hv5'
              have HO5 : Hid (w5.ownsRow w.heap.size 28 2 (.slice (some ⟨g5, 0, none⟩) (i + 1) d5) (i + 1) (flat (zs.take T ++ x :: zs.drop T))) := own_base hown5 (by omega)
              have HB5 : Hid (Below w.heap.size w w5) := HB4.out.grown hgrow5 HB4.out.size (fun k h => by have h2 : g4 = k := Option.some.inj h; omega)
              clear hown5 hgrow5 hv5 hv5' hown4b e6 HO4 HR4 HB4 HCS4 hi hz0 hz1 hz2
              go_wp2_with fail
              go_roundw
              case rel => exact ⟨i + 1, g5, d5, by omega, hd5, by go_num, rfl, ⟨_, HFT.out.1, HFT.out.2, HO5.out⟩, HB5.out⟩
              case measure => simp [intOf]; omega
        · have hd : decide ((0 : Int) < (t : Int)) = false := decide_eq_false (by omega)
          have HF := FIN.out (by intro p hp; rw [show t = 0 by omega] at hp; simp at hp)
          clear FIN
          go_wp2_with fail
          go_quiet (fail)
          have HB2 : Hid (Below w.heap.size w (w1.drewN nq)) := below_drewN HB1.out nq
          have HO2 : Hid ((w1.drewN nq).ownsRow w.heap.size 28 2 (.slice (some ⟨g, 0, none⟩) i d) i (flat zs)) := HO1.out
          have HC2 : Hid ((w1.drewN nq).cell? ⟨b, off + i * 2, none⟩ = some (.int .i64 x.1) ∧ (w1.drewN nq).cell? ⟨b, off + i * 2 + 1, none⟩ = some (.string x.2)) := HC1.out
          generalize w1.drewN nq = w2 at HB2 HO2 HC2 ⊢
          clear HB1 HO1 HC1 c0 c1 HEX
          obtain ⟨T, hT, hTi⟩ : ∃ T : Nat, T = t ∧ T ≤ i := ⟨t, rfl, by omega⟩
          have HFT : Hid (So.Stab (xs.take (i + 1)) (zs.take T ++ x :: zs.drop T) ∧ So.Srt (zs.take T ++ x :: zs.drop T)) := by rw [hT]; exact HF.out
          have hTq : (t : Int) = (T : Int) := by omega
          have hTd : (T : Int) ≤ d := by omega
          have hTi2 : (T : Int) ≤ i := by omega
          have hT0 : (0 : Int) ≤ (T : Int) := by omega
          obtain ⟨hi, hz0, hz1, hz2⟩ := HI.out
          have hg2 : g < w2.heap.size := (HO2.out.lt g rfl).2
          have hw2 : w.heap.size ≤ w2.heap.size := HB2.out.size
          have hnew : (w2.alloc (.cells #[] 28)).ownsRow w2.heap.size 28 2 (.slice (some ⟨w2.heap.size, 0, none⟩) 0 0) 0 [] := World.ownsRow_lit w2 #[] 0 (Nat.le_refl _) (by unfold maxLen; omega) rfl
          have hcs : ∀ j u, (flat (zs.take T))[j]? = some u → (w2.alloc (.cells #[] 28)).cell? ((⟨g, 0, none⟩ : Addr).add j) = some u := fun j u hu => (HO2.out.alloc _).cells (g := g) rfl j u (flat_take zs T j u hu)
          have HCS := Lib.hid hcs
          clear hcs hT
          go_wp2_with (at_builtin; refine wpList_append_own _ rfl _ _ 23 rfl w2.heap.size 28 i0 (.agg #[.int .i64 0, .string ⟨#[]⟩]) 2 24 Try.underlying23 hi hz0 hz1 hz2 rfl (by decide) _ _ _ rfl hnew ⟨g, 0, none⟩ T d (flat (zs.take T)) rfl ?c2 HCS.out (flat_cell1 _) ?c3 ?c4 ?c5 ?_)
          case c2 => rw [flat_len, List.length_take, HZL.out]; omega
          case c3 => unfold maxLen; omega
          case c4 => omega
          case c5 => simp
          intro v3 w3 hown3 hgrow3 hv3
          have hv3' : v3 ≠ .slice none 0 0 := by simpa using hv3
          try rw [List.nil_append] at hown3
          try rw [Nat.zero_add] at hown3
          obtain ⟨g3, d3, rfl, hb3, hl3, hd3⟩ := own_some2 hown3 hv3'
          have hs3 : w2.heap.size + 1 ≤ w3.heap.size := by have := hgrow3.size; simpa using this
          have HO3 : Hid (w3.ownsRow w2.heap.size 28 2 (.slice (some ⟨g3, 0, none⟩) T d3) T (flat (zs.take T))) := hown3
          have HR3 : Hid (w3.ownsRow w.heap.size 28 2 (.slice (some ⟨g, 0, none⟩) i d) i (flat zs)) := own_kept (HO2.out.alloc _) hgrow3 (fun a r e1 e2 => by have h1 : g = a := Option.some.inj e1; have h2 : w2.heap.size = r := Option.some.inj e2; omega)
          have HB3 : Hid (Below w.heap.size w w3) := (HB2.out.alloc HB2.out.size _).grown hgrow3 (by simp; have := HB2.out.size; omega) (fun k h => by cases h; exact HB2.out.size)
          obtain ⟨b9, off9, x9, e9, hx9, c0, c1⟩ := (HX.out.below HB3.out).at_ hlt
          simp only [Option.some.injEq, Addr.mk.injEq, and_true] at e9
          obtain ⟨rfl, rfl⟩ := e9
          have ex9 : x9 = x := by have := HXI.out; rw [hx9] at this; exact Option.some.inj this
          rw [ex9] at c0 c1
          clear hx9 ex9 hown3 hgrow3 hv3 hv3' hnew HCS HB2 HO2 HC2
          have hown3b := HO3.out.alloc (.cells #[.int .i64 x.1, .string x.2] 28)
          go_wp2_with (at_builtin; refine wpList_append_own _ rfl _ _ 23 rfl w2.heap.size 28 i0 (.agg #[.int .i64 0, .string ⟨#[]⟩]) 2 24 Try.underlying23 hi hz0 hz1 hz2 rfl (by decide) _ _ _ rfl hown3b ⟨w3.heap.size, 0, none⟩ 1 1 [.int .i64 x.1, .string x.2] rfl rfl (cell_two _ _ _ _) (by intro u hu; simp at hu; rcases hu with rfl | rfl <;> rfl) ?c3 ?c4 ?c5 ?_)
          case c3 => unfold maxLen; omega
          case c4 => omega
          case c5 => simp; omega
          intro v4 w4 hown4 hgrow4 hv4
          have hv4' : v4 ≠ .slice none 0 0 := by simpa using hv4
          have e4 : flat (zs.take T) ++ [.int .i64 x.1, .string x.2] = flat (zs.take T ++ [x]) := by rw [flat_append]; rfl
          rw [e4] at hown4
          obtain ⟨g4, d4, rfl, hb4, hl4, hd4⟩ := own_some2 hown4 hv4'
          have hs4 : w3.heap.size + 1 ≤ w4.heap.size := by have := hgrow4.size; simpa using this
          have HO4 : Hid (w4.ownsRow w2.heap.size 28 2 (.slice (some ⟨g4, 0, none⟩) (T + 1) d4) (T + 1) (flat (zs.take T ++ [x]))) := hown4
          have HR4 : Hid (w4.ownsRow w.heap.size 28 2 (.slice (some ⟨g, 0, none⟩) i d) i (flat zs)) := own_kept (HR3.out.alloc _) hgrow4 (fun a r e1 e2 => by have h1 : g = a := Option.some.inj e1; have h2 : g3 = r := Option.some.inj e2; omega)
          have hbz : w.heap.size ≤ w3.heap.size := HB3.out.size
          have HB4 : Hid (Below w.heap.size w w4) := (HB3.out.alloc HB3.out.size _).grown hgrow4 (by simp; omega) (fun k h => by have h2 : g3 = k := Option.some.inj h; omega)
          clear hown4 hgrow4 hv4 hv4' hown3b e4 HO3 HR3 HB3 c0 c1
          have hown4b := HO4.out
          by_cases hdT : d = T
          · have hcs4 : ∀ j u, (flat (zs.drop T))[j]? = some u → w4.cell? ((⟨g, 0, none⟩ : Addr).add j) = some u := fun j u hu => by
              rw [List.drop_of_length_le (by rw [HZL.out]; omega)] at hu
              simp [flat] at hu
            have HCS4 := Lib.hid hcs4
            clear hcs4
            go_wp2_with (at_builtin; refine wpList_append_own _ rfl _ _ 23 rfl w2.heap.size 28 i0 (.agg #[.int .i64 0, .string ⟨#[]⟩]) 2 24 Try.underlying23 hi hz0 hz1 hz2 rfl (by decide) _ _ _ rfl hown4b ⟨g, 0, none⟩ _ _ (flat (zs.drop T)) rfl ?c2 HCS4.out (flat_cell1 _) ?c3 ?c4 ?c5 ?_)
            case c2 => rw [flat_len, List.length_drop, HZL.out] <;> (try omega)
            case c3 => unfold maxLen; omega
            case c4 => omega
            case c5 => omega
            intro v5 w5 hown5 hgrow5 hv5
            have hv5' : v5 ≠ .slice none 0 0 := by simpa using hv5
            have e6 : flat (zs.take T ++ [x]) ++ flat (zs.drop T) = flat (zs.take T ++ x :: zs.drop T) := by rw [← flat_append, List.append_assoc]; rfl
            rw [e6] at hown5
            first | rw [show T + 1 + (i - T) = i + 1 by omega] at hown5 | rw [show T + 1 + 0 = i + 1 by omega] at hown5 | rw [show T + 1 = i + 1 by omega] at hown5
            obtain ⟨g5, d5, rfl, hb5, hl5, hd5⟩ := own_some2 hown5 hv5'
            have HO5 : Hid (w5.ownsRow w.heap.size 28 2 (.slice (some ⟨g5, 0, none⟩) (i + 1) d5) (i + 1) (flat (zs.take T ++ x :: zs.drop T))) := own_base hown5 (by omega)
            have HB5 : Hid (Below w.heap.size w w5) := HB4.out.grown hgrow5 HB4.out.size (fun k h => by have h2 : g4 = k := Option.some.inj h; omega)
            clear hown5 hgrow5 hv5 hv5' hown4b e6 HO4 HR4 HB4 HCS4 hi hz0 hz1 hz2
            go_wp2_with fail
            go_roundw
            case rel => exact ⟨i + 1, g5, d5, by omega, hd5, by go_num, rfl, ⟨_, HFT.out.1, HFT.out.2, HO5.out⟩, HB5.out⟩
            case measure => simp [intOf]; omega
          · have hcs4 : ∀ j u, (flat (zs.drop T))[j]? = some u → w4.cell? ((⟨g, T * 2, none⟩ : Addr).add j) = some u := fun j u hu => by
              have := HR4.out.cells (g := g) rfl (T * 2 + j) u (flat_drop zs T (by rw [HZL.out]; exact hTi) j u hu)
              rw [Addr.add_lit] at this ⊢
              simpa using this
            have HCS4 := Lib.hid hcs4
            clear hcs4
            go_wp2_with (at_builtin; refine wpList_append_own _ rfl _ _ 23 rfl w2.heap.size 28 i0 (.agg #[.int .i64 0, .string ⟨#[]⟩]) 2 24 Try.underlying23 hi hz0 hz1 hz2 rfl (by decide) _ _ _ rfl hown4b ⟨g, T * 2, none⟩ (i - T) (d - T) (flat (zs.drop T)) rfl ?c2 HCS4.out (flat_cell1 _) ?c3 ?c4 ?c5 ?_)
            case c2 => rw [flat_len, List.length_drop, HZL.out] <;> (try omega)
            case c3 => unfold maxLen; omega
            case c4 => omega
            case c5 => omega
            intro v5 w5 hown5 hgrow5 hv5
            have hv5' : v5 ≠ .slice none 0 0 := by simpa using hv5
            have e6 : flat (zs.take T ++ [x]) ++ flat (zs.drop T) = flat (zs.take T ++ x :: zs.drop T) := by rw [← flat_append, List.append_assoc]; rfl
            rw [e6] at hown5
            first | rw [show T + 1 + (i - T) = i + 1 by omega] at hown5 | rw [show T + 1 + 0 = i + 1 by omega] at hown5 | rw [show T + 1 = i + 1 by omega] at hown5
            obtain ⟨g5, d5, rfl, hb5, hl5, hd5⟩ := own_some2 hown5 hv5'
            have HO5 : Hid (w5.ownsRow w.heap.size 28 2 (.slice (some ⟨g5, 0, none⟩) (i + 1) d5) (i + 1) (flat (zs.take T ++ x :: zs.drop T))) := own_base hown5 (by omega)
            have HB5 : Hid (Below w.heap.size w w5) := HB4.out.grown hgrow5 HB4.out.size (fun k h => by have h2 : g4 = k := Option.some.inj h; omega)
            clear hown5 hgrow5 hv5 hv5' hown4b e6 HO4 HR4 HB4 HCS4 hi hz0 hz1 hz2
            go_wp2_with fail
            go_roundw
            case rel => exact ⟨i + 1, g5, d5, by omega, hd5, by go_num, rfl, ⟨_, HFT.out.1, HFT.out.2, HO5.out⟩, HB5.out⟩
            case measure => simp [intOf]; omega
    · obtain rfl : i = n := by omega
      have HF : Hid (So.Stab xs zs ∧ So.Srt zs) := by
        have h1 := HZ.out
        rw [List.take_of_length_le (by rw [HXL.out]; exact Nat.le_refl _)] at h1
        exact h1
      go_wp2_with fail
      go_ret
      exact ⟨g, d, zs, rfl, HOW.out, HF.out.1, So.srt_seg HF.out.2, Hb.out⟩
end Go.Proofs.Ytmplanlppjebnaa
