/-
  Contract: BlockWay of the program; BlockWay of the reference.
  Conditions: none.
-/
import Derived.Test.YtlneedjhdnjnpaaWay2
namespace Go.Proofs.Ytlneedjhdnjnpaa
open Go.RowKit
set_option linter.unusedVariables false
attribute [local go_sem ↓] Go.wp_at_zero Go.wp_at_succ run_eql_block run_neq_block

/-- A block that holds a reached block. -/
def R4 (w : World) (b : Nat) (p : Nat × List UInt8) : Prop := w.cell? ⟨b, 0, none⟩ = some (.int .i64 (Bk.nd p.1)) ∧ w.cell? ⟨b, 1, none⟩ = some (.bool (Bk.ins p.1)) ∧ w.cell? ⟨b, 2, none⟩ = some (.bool (Bk.off p.1)) ∧ w.cell? ⟨b, 3, none⟩ = some (.string (mkS p.2))
theorem R4.later {w w' : World} {b : Nat} {p : Nat × List UInt8} (h : R4 w b p) (hb : Below w.heap.size w w') : R4 w' b p := by
  obtain ⟨h0, h1, h2, h3⟩ := h
  exact ⟨(hb.cell (block_lt_of_cell h0)).trans h0, (hb.cell (block_lt_of_cell h1)).trans h1, (hb.cell (block_lt_of_cell h2)).trans h2, (hb.cell (block_lt_of_cell h3)).trans h3⟩
theorem R4.lt {w : World} {b : Nat} {p : Nat × List UInt8} (h : R4 w b p) : b < w.heap.size := block_lt_of_cell h.1
theorem R4.alloc {w : World} {b : Nat} {p : Nat × List UInt8} (h : R4 w b p) (o : Obj) : R4 (w.alloc o) b p := h.later ((Below.refl _ _).alloc (Nat.le_refl _) o)
theorem r4_new (w : World) (p : Nat × List UInt8) (t : TypeId) : R4 (w.alloc (.cells #[.int .i64 (Bk.nd p.1), .bool (Bk.ins p.1), .bool (Bk.off p.1), .string (mkS p.2)] t)) w.heap.size p := by
  refine ⟨?_, ?_, ?_, ?_⟩ <;> simp [go_sem]
theorem R4.grown {w w' : World} {b : Nat} {p : Nat × List UInt8} {row : Option Nat} (h : R4 w b p) (hg : w.grownBy w' row) (hr : ∀ r, row = some r → r ≠ b) : R4 w' b p := by
  obtain ⟨h0, h1, h2, h3⟩ := h
  have ne : some b ≠ row := fun e => hr b e.symm rfl
  exact ⟨hg.cell (a := ⟨b, 0, none⟩) h0 ne, hg.cell (a := ⟨b, 1, none⟩) h1 ne, hg.cell (a := ⟨b, 2, none⟩) h2 ne, hg.cell (a := ⟨b, 3, none⟩) h3 ne⟩
theorem Room.grown2 {w w' : World} {B : Nat} {v0 v1 v2 : Value} {row : Option Nat} (h : Room w B v0 v1 v2) (hg : w.grownBy w' row) (hr : ∀ r, row = some r → r ≠ B) : Room w' B v0 v1 v2 := by
  have hb := hg.block B h.lt (fun e => hr B e.symm rfl)
  obtain ⟨h0, h1, h2, f0, f1, f2⟩ := h
  refine ⟨?_, ?_, ?_, ?_, ?_, ?_⟩
  · rw [← h0]; simp [World.cell?, hb]
  · rw [← h1]; simp [World.cell?, hb]
  · rw [← h2]; simp [World.cell?, hb]
  · rw [← f0]; simp [World.frozen?, hb]
  · rw [← f1]; simp [World.frozen?, hb]
  · rw [← f2]; simp [World.frozen?, hb]
theorem cell_new4 (w : World) (v0 v1 v2 v3 : Value) (t : TypeId) : ∀ j u, [v0, v1, v2, v3][j]? = some u → (w.alloc (.cells #[v0, v1, v2, v3] t)).cell? ((⟨w.heap.size, 0, none⟩ : Addr).add j) = some u := by
  intro j u hj
  match j, hj with
  | 0, hj => simp at hj; subst hj; simp [Addr.add]
  | 1, hj => simp at hj; subst hj; simp [Addr.add]
  | 2, hj => simp at hj; subst hj; simp [Addr.add]
  | 3, hj => simp at hj; subst hj; simp [Addr.add]
set_option maxRecDepth 100000 in
set_option maxHeartbeats 16000000 in
theorem implBlockWay_st (s t : Nat) (w : World) (hs5 : s < 5) (ht5 : t < 5) :
    Calls Try.prog 48 #[bv (Bk.nd s) (Bk.ins s) (Bk.off s), bv (Bk.nd t) (Bk.ins t) (Bk.off t)] w fun e w' => e = .returned (wayV (Bk.wayR s t)) ∧ Below w.heap.size w w' := by
  obtain ⟨hI5, hF, hW⟩ := Bk.b_facts hs5 ht5
  have HF := Lib.hid hF
  have HW := Lib.hid hW
  have HPs : Hid (Bk.possible (Bk.nd s) (Bk.ins s) (Bk.off s) = true) := by unfold Hid Bk.possible; rw [Bk.stOf_st hs5]; rfl
  have HPt : Hid (Bk.possible (Bk.nd t) (Bk.ins t) (Bk.off t) = true) := by unfold Hid Bk.possible; rw [Bk.stOf_st ht5]; rfl
  obtain ⟨i0, hi, hz0, hz1, hz2⟩ := info_parts Try.infoReached
  clear hF hW
  go_enter Try.func48, Try.ntmps48
  go_wp2_with fail
  refine (implBlockPossible_any _ _ _ _).mono ?_
  rintro e w1 ⟨rfl, hb1⟩
  rw [HPs.out]
  have HA1 : Hid (Room w1 w.heap.size (.int .i64 (Bk.nd s)) (.bool (Bk.ins s)) (.bool (Bk.off s))) := ((room_al w _ _ _ _).alloc _).later hb1
  have HB1 : Hid (Room w1 (w.heap.size + 1) (.int .i64 (Bk.nd t)) (.bool (Bk.ins t)) (.bool (Bk.off t))) := Room.later (by have := room_al (w.alloc (.cells #[.int .i64 (Bk.nd s), .bool (Bk.ins s), .bool (Bk.off s)] 34)) (.int .i64 (Bk.nd t)) (.bool (Bk.ins t)) (.bool (Bk.off t)) 34; simpa using this) hb1
  have Hb1 : Hid (Below w.heap.size w w1) := below_seq (((Below.refl w.heap.size w).alloc (Nat.le_refl _) _).alloc (by simp) _) hb1
  clear hb1
  obtain ⟨b0, b1, b2, _, _, _⟩ := HB1.out
  go_wp2_with fail
  refine (implBlockPossible_any _ _ _ _).mono ?_
  rintro e w2 ⟨rfl, hb2⟩
  rw [HPt.out]
  have HA2 := Lib.hid (HA1.out.later hb2)
  have HB2 := Lib.hid (HB1.out.later hb2)
  have Hb2 := Lib.hid (below_seq Hb1.out hb2)
  clear hb2 HA1 HB1 b0 b1 b2
  obtain ⟨a0, a1, a2, _, _, _⟩ := HA2.out
  have hlt2 : w.heap.size + 1 < w2.heap.size := HB2.out.lt
  go_wp2_with fail
  clear a0 a1 a2
  go_loopw [6, 7] (fun v jv wr => ∃ (k nn : Nat), k ≤ Bk.bIdx s t ∧ jv = .int .i64 k ∧ Hid ((Bk.bOut s k).length = nn) ∧ Hid (wr.ownsRow w2.heap.size 86 4 v nn (encR (Bk.bOut s k))) ∧ Hid (Room wr (w.heap.size + 1) (.int .i64 (Bk.nd t)) (.bool (Bk.ins t)) (.bool (Bk.off t))) ∧ Hid (Below w.heap.size w wr)) (fun _ jv _ => 5 - (intOf jv).toNat)
  case atStart => exact ⟨0, 1, by omega, rfl, rfl, World.ownsRow_lit w2 #[.int .i64 (Bk.nd s), .bool (Bk.ins s), .bool (Bk.off s), .string ⟨#[]⟩] 1 (Nat.le_refl _) (by unfold maxLen; omega) rfl, HB2.out.alloc _, Hb2.out.alloc Hb2.out.size _⟩
  case round =>
    obtain ⟨k, nn, hk, rfl, HNN, Ho, HB, Hb⟩ := hrel
    obtain ⟨f, hf⟩ : ∃ f, f = (Bk.bOut s k).getD k (0, []) := ⟨_, rfl⟩
    have hfk := HF.out k hk
    rw [← hf] at hfk
    obtain ⟨hkl, hl5, hf5, hft, hfe⟩ := hfk
    have hkn : k < nn := by have := HNN.out; omega
    have hnn5 : nn ≤ 5 := by have := HNN.out; omega
    have HFK : Hid ((Bk.bOut s k)[k]? = some f) := by unfold Hid; rw [hf, List.getD_eq_getElem?_getD, List.getElem?_eq_getElem hkl]; rfl
    obtain ⟨A, c, rfl, hnc, hcm, hfb⟩ := own_form Ho.out
    have hform : ∃ g, A = some ⟨g, 0, none⟩ := by
      rcases Ho.out.2 with ⟨h', h0⟩ | ⟨g, cap, cur, h', _⟩
      · omega
      · simp only [Value.slice.injEq] at h'
        exact ⟨g, h'.1⟩
    obtain ⟨g, rfl⟩ := hform
    have HGB : Hid (w2.heap.size ≤ g ∧ g < wr.heap.size) := hfb g rfl
    obtain ⟨c0, c1, c2, c3⟩ := RdR.of_own Ho.out k f HFK.out
    obtain ⟨b0, b1, b2, _, _, _⟩ := HB.out
    have hltb : w.heap.size + 1 < wr.heap.size := HB.out.lt
    have hszw : w.heap.size ≤ wr.heap.size := Hb.out.size
    have HEQ := Lib.hid (Bk.st_eq hf5 ht5)
    have k0 : (0 : Int) ≤ k := by omega
    have k1 : (k : Int) < nn := by omega
    clear hfb hf hkl hl5
    by_cases hkI : k = Bk.bIdx s t
    · have hq : (Bk.nd f.1 == Bk.nd t && (Bk.ins f.1 == Bk.ins t && Bk.off f.1 == Bk.off t)) = true := by rw [HEQ.out]; simpa using hfe.2 hkI
      have HV : Hid (wayV (Bk.wayR s t) = .tuple #[.string (mkS f.2), .bool true]) := by
        unfold Hid
        have h1 := HW.out
        rw [← hkI] at h1
        have h2 := HFK.out
        rw [h1, List.getD_eq_getElem?_getD, h2]
        rfl
      clear hkI hfe
      go_wp2_with fail
      go_ret2
      exact ⟨by rw [HV.out]; rfl, Hb.out.alloc hszw _⟩
    · have hq : (Bk.nd f.1 == Bk.nd t && (Bk.ins f.1 == Bk.ins t && Bk.off f.1 == Bk.off t)) = false := by rw [HEQ.out]; simpa using fun h => hkI (hfe.1 h)
      have hkI' : k + 1 ≤ Bk.bIdx s t := by omega
      have HALL : Hid (∀ p ∈ Bk.bOut s k, p.1 < 5) := Bk.bOut_lt hs5 k (by omega)
      have HNL := Lib.hid (Bk.next_nl hf5)
      obtain ⟨LS, hLS⟩ : ∃ LS, LS = mkS (Bk.nl f.1) := ⟨_, rfl⟩
      have HLS := Lib.hid hLS
      have HLL : Hid (LS.toList = Bk.nl f.1) := by unfold Hid; rw [hLS, mkS_toList]
      have hlz : LS.size ≤ 2 := by rw [hLS, mkS_size]; exact (Bk.nl_len hf5).2
      have HLZ : Hid ((Bk.nl f.1).length = LS.size) := by unfold Hid; rw [hLS, mkS_size]
      clear hkI hfe hLS
      obtain ⟨wo, rfl⟩ : ∃ wo : World, wo = wr := ⟨_, rfl⟩
      have HR4 := Lib.hid (r4_new wo f 86)
      go_wp2_with fail
      refine (implBlockNext_any _ _ _ _).mono ?_
      rintro e w3 ⟨rfl, hb3⟩
      rw [HNL.out, ← HLS.out]
      have HR3 := Lib.hid (HR4.out.later hb3)
      have HB3 := Lib.hid ((HB.out.alloc _).later hb3)
      have HO3 := Lib.hid (own_belowAll (Ho.out.alloc _) hb3)
      have Hb3 := Lib.hid (below_seq (Hb.out.alloc hszw _) hb3)
      clear hb3 b0 b1 b2 c0 c1 c2 c3
      go_wp2_with fail
      go_loopw [6, 46] (fun v jv wi => ∃ (j nn' : Nat), j ≤ LS.size ∧ nn' ≤ 5 + j ∧ jv = .int .i64 j ∧ Hid ((Bk.bIn f (Bk.bOut s k) j).length = nn') ∧ Hid (wi.ownsRow w2.heap.size 86 4 v nn' (encR (Bk.bIn f (Bk.bOut s k) j))) ∧ Hid (∀ r, v.ownBlock = some r → r ≠ wo.heap.size) ∧ 1 ≤ nn' ∧ Hid (R4 wi wo.heap.size f) ∧ Hid (Room wi (w.heap.size + 1) (.int .i64 (Bk.nd t)) (.bool (Bk.ins t)) (.bool (Bk.off t))) ∧ Hid (Below w.heap.size w wi)) (fun _ jv _ => LS.size - (intOf jv).toNat)
      case atStart => exact ⟨0, nn, by omega, by omega, rfl, HNN, HO3, fun r h => by have := HGB.out; simp [Value.ownBlock] at h; omega, by omega, HR3, HB3, Hb3⟩
      case round =>
        clear HR3 HB3 HO3 Hb3 HR4 Ho HB Hb
        obtain ⟨j, nn', hj, hnn', rfl, HNN', Ho, HNE, hn1, HR4, HB, Hb⟩ := hrel
        obtain ⟨A', c', rfl, hnc', hcm', hfb'⟩ := own_form Ho.out
        have hform : ∃ g', A' = some ⟨g', 0, none⟩ := by
          rcases Ho.out.2 with ⟨h', h0⟩ | ⟨g', cap, cur, h', _⟩
          · omega
          · simp only [Value.slice.injEq] at h'
            exact ⟨g', h'.1⟩
        obtain ⟨g', rfl⟩ := hform
        have HGB' : Hid (w2.heap.size ≤ g' ∧ g' < wr.heap.size) := hfb' g' rfl
        have hszw2 : w.heap.size ≤ wr.heap.size := Hb.out.size
        clear hfb'
        by_cases hltj : j < LS.size
        · obtain ⟨ch, hch⟩ : ∃ ch, ch = (LS[j]'hltj) := ⟨_, rfl⟩
          have HC : Hid ((Bk.nl f.1)[j]? = some ch) := by unfold Hid; rw [← HLL.out, hch]; exact str_at' LS j hltj
          obtain ⟨hst, hgo⟩ := Bk.nl_step hf5 (List.mem_of_getElem? HC.out)
          obtain ⟨E, hsl, hE, hEz⟩ : ∃ E : ByteArray, (∀ W : World, (Instr.slice 9 (.string LS) (some (.int .i64 (j : Int))) (some (.int .i64 ((j : Int) + 1))) none).run Try.prog W = .ok (.string E) W) ∧ E.toList = [ch] ∧ E.size ≤ maxLen :=
            ⟨_, fun W => slice_one W LS j hltj, by rw [extract_one LS j hltj, hch], by rw [← str_len', extract_one LS j hltj]; simp [maxLen]⟩
          have HRes : Hid (resV (Bk.stepR (Bk.nd f.1) (Bk.ins f.1) (Bk.off f.1) E.toList) = .tuple #[bv (Bk.nd (Bk.go f.1 ch)) (Bk.ins (Bk.go f.1 ch)) (Bk.off (Bk.go f.1 ch)), .bool true]) := by unfold Hid; rw [hE, Bk.stepR_some (Bk.stOf_st hf5), hst]; rfl
          obtain ⟨X, hadd, hX⟩ : ∃ X : ByteArray, (∀ W : World, (Op.stringOp .add (mkS f.2) E).run Try.prog W = .ok (.string X) W) ∧ X = mkS (f.2 ++ [ch]) :=
            ⟨_, fun W => run_string_add_sum W _ _ (by rw [mkS_size, ← str_len', hE]; simp; omega), mkS_eq (by rw [append_toList, mkS_toList, hE])⟩
          have HX := Lib.hid hX
          have HEz := Lib.hid hEz
          have HAL2 : Hid (∀ p ∈ Bk.bIn f (Bk.bOut s k) j, p.1 < 5) := Bk.bIn_lt hf5 HALL.out j (by rw [HLZ.out]; omega)
          clear hch hst hE hEz hX
          obtain ⟨d0, d1, d2, d3⟩ := HR4.out
          go_wp2_with fail
          refine (implBlockStep_any _ _ _ E _ HEz.out).mono ?_
          rintro e w4 ⟨rfl, hb4⟩
          rw [HRes.out]
          have HR5 := Lib.hid (HR4.out.later hb4)
          have HB5 := Lib.hid (HB.out.later hb4)
          have HO5 := Lib.hid (own_belowAll Ho.out hb4)
          have Hb5 := Lib.hid (below_seq Hb.out hb4)
          have HGB5 : Hid (g' < w4.heap.size) := Nat.lt_of_lt_of_le HGB'.out.2 hb4.size
          have hszw5 : w.heap.size ≤ w4.heap.size := Hb5.out.size
          clear hb4 d0 d1 d2 d3
          go_wp2_with fail
          refine (isReached_any g' nn' c' (Bk.bIn f (Bk.bOut s k) j) (Bk.go f.1 ch) _ (RdR.of_own (HO5.out.alloc _)) HNN'.out (by omega) HAL2.out hgo).mono ?_
          rintro e w6 ⟨rfl, hb6⟩
          have HX6 := Lib.hid ((room_al w4 (.int .i64 (Bk.nd (Bk.go f.1 ch))) (.bool (Bk.ins (Bk.go f.1 ch))) (.bool (Bk.off (Bk.go f.1 ch))) 34).later hb6)
          have HR6 := Lib.hid ((HR5.out.alloc _).later hb6)
          have HB6 := Lib.hid ((HB5.out.alloc _).later hb6)
          have hown : w6.ownsRow w2.heap.size 86 4 (.slice (some ⟨g', 0, none⟩) nn' c') nn' (encR (Bk.bIn f (Bk.bOut s k) j)) := own_belowAll (HO5.out.alloc _) hb6
          have HO6 := Lib.hid hown
          have Hb6 := Lib.hid (below_seq (Hb5.out.alloc hszw5 _) hb6)
          have hszw6 : w.heap.size ≤ w6.heap.size := Hb6.out.size
          have hlt6 : w4.heap.size < w6.heap.size := HX6.out.lt
          clear hb6
          cases hir : isR (Bk.bIn f (Bk.bOut s k) j) (Bk.go f.1 ch) with
          | true =>
            have HBI := Lib.hid (Bk.bIn_yes HC.out hir)
            clear hir hown hadd
            go_wp2_with fail
            go_roundw
            case rel => first | exact ⟨j + 1, nn', by omega, by omega, by go_num, by unfold Hid; rw [HBI.out]; exact HNN'.out, by unfold Hid; rw [HBI.out]; exact HO6.out, HNE, hn1, HR6, HB6, Hb6⟩ | ((repeat apply Exists.intro); exact ⟨⟨j + 1, nn', by omega, by omega, by go_num, by unfold Hid; rw [HBI.out]; exact HNN'.out, by unfold Hid; rw [HBI.out]; exact HO6.out, HNE, hn1, HR6, HB6, Hb6⟩, rfl⟩)
            case measure => simp [intOf]; omega
          | false =>
            have HBI := Lib.hid (Bk.bIn_no HC.out hir)
            clear hir
            obtain ⟨x0, x1, x2, _, _, _⟩ := HX6.out
            obtain ⟨d0, d1, d2, d3⟩ := HR6.out
            go_wp2_with (at_builtin; refine wpList_append_own_at _ rfl _ _ 87 rfl w2.heap.size 86 i0 (.agg #[.int .i64 0, .bool false, .bool false, .string ⟨#[]⟩]) 4 32 Try.underlying87 hi hz0 hz1 hz2 rfl (by decide) _ _ _ rfl (hown.alloc _) ⟨w6.heap.size, 0, none⟩ 1 1 [.int .i64 (Bk.nd (Bk.go f.1 ch)), .bool (Bk.ins (Bk.go f.1 ch)), .bool (Bk.off (Bk.go f.1 ch)), .string X] rfl rfl (cell_new4 _ _ _ _ _ _) ?c2 ?c3 ?c4 ?c5 ?_)
            case c2 => intro u hu; simp at hu; rcases hu with rfl | rfl | rfl | rfl <;> rfl
            case c3 => unfold maxLen; omega
            case c4 => omega
            case c5 => have := HGB'.out; have := HGB5.out; simp only [World.size_alloc]; omega
            intro v7 w7 hown7 hgrow7 _ hat7
            have HO7 := Lib.hid hown7
            have HAT := Lib.hid hat7
            have HNE7 : Hid (∀ r, v7.ownBlock = some r → r ≠ wo.heap.size) := by
              intro r hr
              rcases HAT.out with h | h
              · exact HNE.out r (h ▸ hr)
              · have hF := HR6.out.lt
                have hr' : some (w6.heap.size + 1) = some r := by rw [← hr, h]
                injection hr' with hr'
                omega
            have HR7 := Lib.hid ((HR6.out.alloc (.cells #[.int .i64 (Bk.nd (Bk.go f.1 ch)), .bool (Bk.ins (Bk.go f.1 ch)), .bool (Bk.off (Bk.go f.1 ch)), .string X] 86)).grown hgrow7 (fun r h => HNE.out r h))
            have HB7 := Lib.hid ((HB6.out.alloc (.cells #[.int .i64 (Bk.nd (Bk.go f.1 ch)), .bool (Bk.ins (Bk.go f.1 ch)), .bool (Bk.off (Bk.go f.1 ch)), .string X] 86)).grown2 hgrow7 (fun r h => by have := HGB'.out; simp [Value.ownBlock] at h; omega))
            have Hb7 := Lib.hid (below_grown (Hb6.out.alloc hszw6 (.cells #[.int .i64 (Bk.nd (Bk.go f.1 ch)), .bool (Bk.ins (Bk.go f.1 ch)), .bool (Bk.off (Bk.go f.1 ch)), .string X] 86)) hgrow7 (by simp; omega) (fun r h => by have := HGB'.out; simp [Value.ownBlock] at h; omega))
            clear hown hown7 hgrow7 hat7 hadd x0 x1 x2 d0 d1 d2 d3
            go_wp2_with fail
            go_roundw
            case rel => first | exact ⟨j + 1, nn' + 1, by omega, by omega, by go_num, by unfold Hid; rw [HBI.out, List.length_append, HNN'.out]; rfl, by unfold Hid; rw [HBI.out, encR_append]; unfold enc4; rw [← HX.out]; exact HO7.out, HNE7, by omega, HR7, HB7, Hb7⟩ | ((repeat apply Exists.intro); exact ⟨⟨j + 1, nn' + 1, by omega, by omega, by go_num, by unfold Hid; rw [HBI.out, List.length_append, HNN'.out]; rfl, by unfold Hid; rw [HBI.out, encR_append]; unfold enc4; rw [← HX.out]; exact HO7.out, HNE7, by omega, HR7, HB7, Hb7⟩, rfl⟩)
            case measure => simp [intOf]; omega
        · have hjj : j = LS.size := by omega
          have HBO : Hid (Bk.bOut s (k + 1) = Bk.bIn f (Bk.bOut s k) j) := by
            unfold Hid
            have h2 := HFK.out
            simp only [Bk.bOut]
            rw [List.getD_eq_getElem?_getD, h2, hjj, ← HLZ.out]
            rfl
          clear hjj
          go_wp2_with fail
          go_roundw
          case rel => first | exact ⟨k + 1, nn', by omega, by go_num, by unfold Hid; rw [HBO.out]; exact HNN'.out, by unfold Hid; rw [HBO.out]; exact Ho.out, HB, Hb⟩ | ((repeat apply Exists.intro); exact ⟨⟨k + 1, nn', by omega, by go_num, by unfold Hid; rw [HBO.out]; exact HNN'.out, by unfold Hid; rw [HBO.out]; exact Ho.out, HB, Hb⟩, rfl⟩)
          case measure => simp [intOf]; omega
end Go.Proofs.Ytlneedjhdnjnpaa
