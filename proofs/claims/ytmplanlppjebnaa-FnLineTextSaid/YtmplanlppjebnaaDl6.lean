/-
  Contracts of the reference's LineMoves and LineStep: they answer at every line that reads as blocks and trains.
  Conditions: at most five blocks and five trains.
-/
import Derived.Test.YtmplanlppjebnaaDl5
namespace Go.Proofs.Ytmplanlppjebnaa
open Go.RowKit
set_option linter.unusedVariables false
set_option linter.unusedSimpArgs false
attribute [local go_sem ↓] Go.wp_at_zero Go.wp_at_succ

theorem slice_one (W : World) (s : ByteArray) (k : Nat) (h : k < s.size) : (Instr.slice 9 (.string s) (some (.int .i64 (k : Int))) (some (.int .i64 ((k : Int) + 1))) none).run Try.prog W = .ok (.string (s.extract k (k + 1))) W := by
  rw [run_slice_string W 9 s .i64 .i64 (k : Int) ((k : Int) + 1) Try.underlying9 (by omega) (by omega) (by omega)]
  rfl
/-- All letters are of one byte. -/
def One (xs : List Mv) : Prop := ∀ p ∈ xs, p.2.size = 1
theorem extract_size_one (s : ByteArray) (k : Nat) (h : k < s.size) : (s.extract k (k + 1)).size = 1 := by
  have h1 : (s.extract k (k + 1)).toList.length = 1 := by rw [extract_one s k h]; rfl
  rwa [str_len'] at h1
abbrev evS : ByteArray := ⟨#[97, 99, 101, 102, 108, 111, 114]⟩
theorem two_cells (w : World) (o : Obj) (v0 v1 : Value) (t : TypeId) : ∀ (j : Nat) (u : Value), [v0, v1][j]? = some u → ((w.alloc o).alloc (.cells #[v0, v1] t)).cell? ((⟨w.heap.size + 1, 0, none⟩ : Addr).add j) = some u := by
  intro j u hj
  match j, hj with
  | 0, hj => simp at hj; subst hj; simp [Addr.add, go_sem]
  | 1, hj => simp at hj; subst hj; simp [Addr.add, go_sem]
theorem two_one (k : Int) (T : ByteArray) : ∀ u ∈ [Value.int .i64 k, Value.string T], u.oneCell' = true := by
  intro u hu
  simp at hu
  rcases hu with rfl | rfl <;> rfl
theorem specL4Step_ln (A : Option Addr) (n c : Nat) (B : Option Addr) (m d : Nat) (xs : List B3) (zs : List Int) (S : Int) (t : ByteArray) (w : World) (h : LnA w A n B m xs zs) (hn1 : 1 ≤ n) (ht : t.size ≤ maxLen) :
    Calls Try.prog 52 #[liv A n c B m d, mvv S t] w fun e w' => ∃ v ok, e = .returned (.tuple #[v, .bool ok]) ∧ LinR w.heap.size w' v ∧ Below w.heap.size w w' := by
  obtain ⟨hx, hz, hn, hm, hb⟩ := h
  obtain ⟨bb, bo, rfl⟩ := hb hn1
  obtain ⟨ab, ao, rfl, _⟩ := hx.2 hn1
  exact specL4Step_any ab ao n c bb bo m d xs zs S t w hx hz hn1 hn hm ht

set_option maxRecDepth 100000 in
set_option maxHeartbeats 4000000 in
theorem specLineStep_any (A : Option Addr) (n c : Nat) (B : Option Addr) (m d : Nat) (xs : List B3) (zs : List Int) (S : Int) (t : ByteArray) (w : World) (h : LnA w A n B m xs zs) (ht : t.size ≤ maxLen) :
    Calls Try.prog 46 #[liv A n c B m d, mvv S t] w fun e w' => ∃ v ok, e = .returned (.tuple #[v, .bool ok]) ∧ LinR w.heap.size w' v ∧ Below w.heap.size w w' := by
  obtain ⟨hl0, hm0, hr0, hb0⟩ := boxes3 w (.slice A n c) (.slice B m d) (.int .i64 S) (.string t) (.slice none 0 0) (.slice none 0 0) 38 28 38
  have HA := Lib.hid (h.below hb0)
  have HL := Lib.hid hl0
  have HM := Lib.hid hm0
  have HR := Lib.hid hr0
  have HB := Lib.hid hb0
  clear hl0 hm0 hr0 hb0 h
  have hw2 : w.heap.size ≤ w.heap.size + 1 + 1 := by omega
  go_enter Try.func46, Try.ntmps46
  go_wp2_with fail
  generalize ((w.alloc (.cells #[.slice A n c, .slice B m d] 38)).alloc (.cells #[.int .i64 S, .string t] 28)).alloc (.cells #[.slice none 0 0, .slice none 0 0] 38) = W at HA HL HM HR HB ⊢
  refine (specLineValid_any _ _ _ _ _ _ xs zs _ HA.out.bl HA.out.tr HA.out.hn HA.out.hm).mono ?_
  rintro e w1 ⟨b, rfl, hbn, hb1⟩
  have HA1 := Lib.hid (HA.out.below hb1)
  have HB1 := Lib.hid (below_seq HB.out hb1)
  have HR1 := Lib.hid (HR.out.below hb1)
  obtain ⟨l0, l1, _, _⟩ := HL.out.below hb1
  obtain ⟨m0, m1, _, _⟩ := HM.out.below hb1
  have hbig : w.heap.size + 1 + 1 + 1 ≤ w1.heap.size := HR1.out.lt
  clear hb1 HL HM HR HB HA
  cases b
  · obtain ⟨r0, r1, f0, f1⟩ := HR1.out
    clear l0 l1 m0 m1
    go_wp2_with fail
    refine bodyPost_ret (v := .tuple #[liv none 0 0 none 0 0, .bool false]) (by simp [results, Try.results46, go_sem, r0, r1]) rfl ?_
    exact ⟨_, _, rfl, LinR.zero _ _, (HB1.out.setCell hw2 _).setCell hw2 _⟩
  · have hn1 : 1 ≤ n := hbn rfl
    clear hbn
    go_wp2_with fail
    refine (specL4Step_ln _ _ _ _ _ _ xs zs _ _ _ HA1.out hn1 ht).mono ?_
    rintro e w2 ⟨v, ok, rfl, hv, hb2⟩
    obtain ⟨A', n', c', B', m', d', xs', zs', hv1, hv2⟩ := hv
    have HV2 : Hid (LinR (w.heap.size + 1 + 1 + 1) w2 (liv A' n' c' B' m' d')) := LinR.base ⟨A', n', c', B', m', d', xs', zs', rfl, hv2⟩ hbig
    subst hv1
    obtain ⟨r0, r1, f0, f1⟩ := HR1.out.below hb2
    have HB2 := Lib.hid (below_seq HB1.out hb2)
    clear hv2 hb2 l0 l1 m0 m1
    go_wp2_with fail
    refine bodyPost_ret (v := .tuple #[liv A' n' c' B' m' d', .bool ok]) (by simp [results, Try.results46, go_sem, r0, r1]) rfl ?_
    exact ⟨_, _, rfl, ((HV2.out.far (by omega) _).far (by omega) _).base (by omega), (HB2.out.setCell hw2 _).setCell hw2 _⟩
set_option maxRecDepth 100000 in
set_option maxHeartbeats 4000000 in
theorem specLineMoves_any (A : Option Addr) (n c : Nat) (B : Option Addr) (m d : Nat) (xs : List B3) (zs : List Int) (w : World) (h : LnA w A n B m xs zs) :
    Calls Try.prog 45 #[liv A n c B m d] w fun e w' => ∃ (g k cap : Nat) (ms : List Mv), e = .returned (.slice (some ⟨g, 0, none⟩) k cap) ∧ k ≤ 35 ∧ w'.ownsRow w.heap.size 28 2 (.slice (some ⟨g, 0, none⟩) k cap) k (flat ms) ∧ One ms ∧ Below w.heap.size w w' := by
  have HB0 : Hid (Below w.heap.size w (w.alloc (.cells #[.slice A n c, .slice B m d] 38))) := (Below.refl w.heap.size w).alloc (Nat.le_refl _) _
  have HA := Lib.hid (h.below HB0.out)
  have HL := Lib.hid (RmF.new w (.slice A n c) (.slice B m d) 38)
  have HO0 : Hid ((((w.alloc (.cells #[.slice A n c, .slice B m d] 38)).alloc (.cells #[] 28))).ownsRow (w.alloc (.cells #[.slice A n c, .slice B m d] 38)).heap.size 28 2 (.slice (some ⟨(w.alloc (.cells #[.slice A n c, .slice B m d] 38)).heap.size, 0, none⟩) 0 0) 0 (flat [])) := World.ownsRow_lit _ #[] 0 (Nat.le_refl _) (by unfold maxLen; omega) rfl
  obtain ⟨i0, hi, hz0, hz1, hz2⟩ := info_parts Try.infoMove
  have HI := Lib.hid (And.intro hi (And.intro hz0 (And.intro hz1 hz2)))
  clear h hi hz0 hz1 hz2
  go_enter Try.func45, Try.ntmps45
  go_wp2_with fail
  simp only [World.size_alloc] at HO0 ⊢
  obtain ⟨W, hW⟩ : ∃ W, W = w.alloc (.cells #[.slice A n c, .slice B m d] 38) := ⟨_, rfl⟩
  rw [← hW] at HB0 HA HL HO0 ⊢
  have hsz : W.heap.size = w.heap.size + 1 := by rw [hW, World.size_alloc]
  have HSZ := Lib.hid hsz
  clear hW hsz
  go_loopw [3, 5] (fun o kv wr => ∃ k i g cap : Nat, k ≤ n ∧ i ≤ 7 * k ∧ kv = .int .i64 k ∧ o = .slice (some ⟨g, 0, none⟩) i cap ∧ Hid (∃ ms, One ms ∧ wr.ownsRow (w.heap.size + 1) 28 2 (.slice (some ⟨g, 0, none⟩) i cap) i (flat ms)) ∧ Hid (Below W.heap.size W wr)) (fun _ kv _ => n - (intOf kv).toNat)
  case atStart => exact ⟨0, 0, w.heap.size + 1, 0, Nat.zero_le _, Nat.zero_le _, rfl, rfl, ⟨[], fun p hp => by simp at hp, HO0.out⟩, (Below.refl _ _).alloc (Nat.le_refl _) _⟩
  case round =>
    clear HO0
    obtain ⟨k, i, g, cap, hk, hi7, rfl, rfl, HO, HB⟩ := hrel
    have hn5 : n ≤ 5 := HA.out.hn
    obtain ⟨l0, l1, _, _⟩ := HL.out.below HB.out
    by_cases hlt : k < n
    · go_wp2_with fail
      refine (specLineValid_any _ _ _ _ _ _ xs zs _ (HA.out.below HB.out).bl (HA.out.below HB.out).tr HA.out.hn HA.out.hm).mono ?_
      rintro e w1 ⟨b, rfl, hbn, hb1⟩
      have HB1 := Lib.hid (below_seq HB.out hb1)
      have HO1 : Hid (∃ ms, One ms ∧ w1.ownsRow (w.heap.size + 1) 28 2 (.slice (some ⟨g, 0, none⟩) i cap) i (flat ms)) := by
        obtain ⟨ms, h1, h2⟩ := HO.out
        exact ⟨ms, h1, own_belowAll h2 hb1⟩
      clear hb1 HO HB l0 l1 hbn
      cases b
      · go_wp2_with fail
        go_ret
        obtain ⟨ms, h1, h2⟩ := HO1.out
        exact ⟨g, i, cap, ms, rfl, by omega, own_base h2 (by omega), h1, below_seq HB0.out HB1.out⟩
      · go_wp2_with fail
        go_loopw [3, 6] (fun o jv wr => ∃ j i g cap : Nat, j ≤ 7 ∧ i ≤ 7 * k + j ∧ jv = .int .i64 j ∧ o = .slice (some ⟨g, 0, none⟩) i cap ∧ Hid (∃ ms, One ms ∧ wr.ownsRow (w.heap.size + 1) 28 2 (.slice (some ⟨g, 0, none⟩) i cap) i (flat ms)) ∧ Hid (Below W.heap.size W wr)) (fun _ jv _ => 7 - (intOf jv).toNat)
        case atStart => exact ⟨0, i, g, cap, Nat.zero_le _, by omega, rfl, rfl, HO1.out, HB1.out⟩
        case round =>
          clear HO1 HB1
          obtain ⟨j, i, g, cap, hj, hij, rfl, rfl, HO, HB⟩ := hrel
          obtain ⟨l0, l1, _, _⟩ := HL.out.below HB.out
          by_cases hlj : j < 7
          · have hlk : j < evS.size := hlj
            have HSL : Hid ((evS.extract j (j + 1)).size = 1) := extract_size_one evS j hlk
            have hsl : ∀ W : World, (Instr.slice 9 (.string evS) (some (.int .i64 (j : Int))) (some (.int .i64 ((j : Int) + 1))) none).run Try.prog W = .ok (.string (evS.extract j (j + 1))) W := fun W => slice_one W evS j hlk
            generalize evS.extract j (j + 1) = T at HSL hsl
            have hlw : w.heap.size < wr.heap.size := by have h1 := HB.out.size; have h2 := HSZ.out; omega
            have hne : ¬ w.heap.size = wr.heap.size := by omega
            have hne' : ¬ wr.heap.size = w.heap.size := by omega
            clear hlk
            go_wp2_with fail
            refine (specL4Step_ln _ _ _ _ _ _ xs zs _ _ _ ((HA.out.below HB.out).below (bl1 wr _)) (by omega) (by have := HSL.out; unfold maxLen; omega)).mono ?_
            rintro e w2 ⟨v, ok, rfl, hv, hb2⟩
            obtain ⟨A', n', c', B', m', d', _, _, rfl, _⟩ := hv
            have HB2 : Hid (Below W.heap.size W w2) := below_seq (HB.out.alloc HB.out.size _) hb2
            obtain ⟨q0, q1, _, _⟩ := (RmF.new wr (.int .i64 k) (.string T) 28).below hb2
            have HO2 : Hid (∃ ms, One ms ∧ w2.ownsRow (w.heap.size + 1) 28 2 (.slice (some ⟨g, 0, none⟩) i cap) i (flat ms)) := by
              obtain ⟨ms, h1, h2⟩ := HO.out
              exact ⟨ms, h1, own_belowAll (h2.alloc _) hb2⟩
            have hlq : wr.heap.size < w2.heap.size := block_lt_of_cell q0
            have hnq : ¬ wr.heap.size = w2.heap.size := by omega
            clear hb2 HO HB l0 l1 hlw hne hne' hsl
            cases ok
            · go_wp2_with fail
              go_roundw
              case rel => exact ⟨j + 1, i, g, cap, by omega, by omega, by go_num, rfl, (let ⟨ms, h1, h2⟩ := HO2.out; ⟨ms, h1, h2.alloc _⟩), HB2.out.alloc HB2.out.size _⟩
              case measure => simp [intOf]; omega
            · obtain ⟨ms, hms, hown⟩ := HO2.out
              have HMS := Lib.hid hms
              obtain ⟨hi, hz0, hz1, hz2⟩ := HI.out
              have hW2 : w.heap.size + 1 ≤ w2.heap.size := by have h1 := HB2.out.size; have h2 := HSZ.out; omega
              go_wp2_with (at_builtin; refine wpList_append_own _ rfl _ _ 23 rfl (w.heap.size + 1) 28 i0 (.agg #[.int .i64 0, .string ⟨#[]⟩]) 2 24 Try.underlying23 hi hz0 hz1 hz2 rfl (by decide) _ _ _ rfl ((hown.alloc _).alloc _) ⟨w2.heap.size + 1, 0, none⟩ 1 1 [.int .i64 k, .string T] rfl rfl (two_cells w2 _ _ _ _) (two_one _ _) ?c3 ?c4 ?c5 ?_)
              case c3 => unfold maxLen; omega
              case c4 => omega
              case c5 => simp only [World.size_alloc]; omega
              intro v3 w3 hown3 hgrow3 hnz
              obtain ⟨g', cap', rfl, _, _⟩ := hown3.form (by omega)
              have hg0 := (hown.lt g rfl).1
              have HF : Hid (∃ ms, One ms ∧ w3.ownsRow (w.heap.size + 1) 28 2 (.slice (some ⟨g', 0, none⟩) (i + 1) cap') (i + 1) (flat ms)) := by
                refine ⟨ms ++ [((k : Int), T)], fun p hp => ?_, by rw [flat_append]; exact hown3⟩
                rcases List.mem_append.1 hp with h | h
                · exact HMS.out p h
                · simp at h; subst h; exact HSL.out
              have HB3 : Hid (Below W.heap.size W w3) := ((HB2.out.alloc HB2.out.size _).alloc (by simp only [World.size_alloc]; have := HB2.out.size; omega) _).grown hgrow3 (by simp only [World.size_alloc]; have := HB2.out.size; omega) (fun r e => by have e1 : g = r := Option.some.inj e; have := HSZ.out; omega)
              clear hown hown3 hgrow3 hnz hms hi hz0 hz1 hz2 q0 q1
              go_wp2_with fail
              go_roundw
              case rel => exact ⟨j + 1, i + 1, g', cap', by omega, by omega, by go_num, by go_num, HF.out, HB3.out⟩
              case measure => simp [intOf]; omega
          · go_wp2_with fail
            go_roundw
            case rel => exact ⟨k + 1, i, g, cap, by omega, by omega, by go_num, rfl, HO.out, HB.out⟩
            case measure => simp [intOf]; omega
    · go_wp2_with fail
      go_ret
      obtain ⟨ms, h1, h2⟩ := HO.out
      exact ⟨g, i, cap, ms, rfl, by omega, own_base h2 (by omega), h1, below_seq HB0.out HB.out⟩
end Go.Proofs.Ytmplanlppjebnaa
