/-
  The walk of the law FnBookFind: it returns true for every list of bytes and leaves old memory as it was.
  Conditions: none.
-/
import Derived.Test.YtpfgjkgjeejghaaDrawBook2
import Derived.Test.YtpfgjkgjeejghaaBookLaws
import Derived.Test.YtpfgjkgjeejghaaRead2
import Derived.Deep.RegionLaw
namespace Go.Proofs.Ytpfgjkgjeejghaa
open Go.RowKit
set_option linter.unusedVariables false
attribute [local go_sem ↓] Go.wp_at_zero Go.wp_at_succ

/-- Append onto a row of the call's own, as a step of a region that draws its order. -/
theorem step_append_own {P : Program} (w : World) {ops : Array Oper} {o : Oper} {a : Act} {K : Act → World → Prop} {Q : Exit → Act → World → Prop} {E : Prop} (hgd : o.guard = none) (s x : Operand) (t : TypeId)
    (ho : o.op = .call { callee := .builtin .append, args := #[s, x], argTypes := #[t, t] })
    (base : Nat) (e : TypeId) (i : TypeInfo) (z : Value) (size bytes : Nat) (ht : P.underlying t = some (.slice e)) (hi : P.info? e = some i) (hz : i.zero = some z)
    (hsize : i.size = size) (hby : i.bytes = bytes) (hzs : z.cells.size = size) (hsz : 0 < size)
    (v : Value) (n : Nat) (xs : List Value) (hs : a.eval s = v) (hown : w.ownsRow base e size v n xs)
    (ad : Addr) (m c : Nat) (news : List Value) (hx : a.eval x = .slice (some ad) m c) (hl : news.length = m * size) (hnews : ∀ j u, news[j]? = some u → w.cell? (ad.add j) = some u) (h1 : ∀ u ∈ news, u.oneCell' = true)
    (h63 : n + m ≤ maxLen) (hbytes : (n + m) * bytes ≤ 140737488355328) (hbase : base ≤ w.heap.size)
    (h : ∀ v' w', w'.ownsRow base e size v' (n + m) (xs ++ news) → w.grownBy w' v.ownBlock → (v'.ownBlock = v.ownBlock ∨ v'.ownBlock = some w.heap.size) → K (a.put o.dst v') w') :
    if Region.wanted o (yielded ops a.tmps) = true then Oper.wp P o a w K Q else E := by
  have hw : Region.wanted o (yielded ops a.tmps) = true := by simp [Region.wanted, hgd]
  rw [if_pos hw]
  obtain ⟨v', w', hr, h2, h3, _, h5⟩ := run_append_own_at (P := P) w base t o.type e i z size bytes ht hi hz hsize hby hzs hsz v n xs hown ad m c news hl hnews h1 h63 hbytes hbase
  unfold Oper.wp execOp
  simp only [ho, resolve, invoke, builtin, Sem.run_bind, Sem.run_pure, Result.andThen_ok, List.map_toArray, List.map_cons, List.map_nil, hs, hx, hr]
  exact h v' w' h2 h3 h5
theorem rest_rd {w : World} {B n c q : Nat} {A : Option Addr} {rs : List Value} {zss : List (List Int)} (ho : w.ownsRow B 23 1 (.slice A n c) n ([] ++ rs.take q ++ rs.drop (q + 1)))
    (hri : ∀ (k : Nat) r, rs[k]? = some r → ∃ A' n' c' zs, r = .slice A' n' c' ∧ zss[k]? = some zs ∧ RdI w A' n' zs ∧ n' ≤ c' ∧ c' ≤ maxLen) (hl : rs.length = zss.length) (hn : (zss.eraseIdx q).length = n) : RdM w A n (zss.eraseIdx q) := by
  have hro := Rd.of_own ho
  have e : [] ++ rs.take q ++ rs.drop (q + 1) = rs.eraseIdx q := by rw [List.nil_append, List.eraseIdx_eq_take_drop_succ]
  rw [e] at hro
  refine ⟨hn, fun h0 => ?_⟩
  obtain ⟨b, off, eA, hc⟩ := hro.2 h0
  refine ⟨b, off, eA, fun j zs hj => ?_⟩
  rw [List.getElem?_eraseIdx] at hj
  have key : ∀ i : Nat, zss[i]? = some zs → (rs.eraseIdx q)[j]? = rs[i]? → ∃ A' n' c', w.cell? ⟨b, off + j, none⟩ = some (.slice A' n' c') ∧ RdI w A' n' zs ∧ n' ≤ c' ∧ c' ≤ maxLen := by
    intro i hi hri'
    have hil : i < rs.length := by rw [hl]; exact (List.getElem?_eq_some_iff.1 hi).1
    have hr := List.getElem?_eq_getElem hil
    obtain ⟨A', n', c', us, er, hz, h1, h2, h3⟩ := hri i _ hr
    rw [hi] at hz
    cases hz
    exact ⟨A', n', c', hc j _ (by rw [hri', hr, er]), h1, h2, h3⟩
  split at hj
  · rename_i hjq
    exact key j hj (by rw [List.getElem?_eraseIdx, if_pos hjq])
  · rename_i hjq
    exact key (j + 1) hj (by rw [List.getElem?_eraseIdx, if_neg hjq])
set_option maxRecDepth 100000 in
set_option maxHeartbeats 8000000 in
theorem FnBookFind_walk (w : World) (A : Option Addr) (n c : Nat) (bs : List UInt8) (hx : RdB w A n bs) (hl : n ≤ c) (hc : c ≤ maxLen) :
    Calls Try.prog 13 #[.slice A n c] w fun e w' => e = .returned (.bool true) ∧ Below w.heap.size w w' := by
  have HX := Lib.hid hx
  have HL := Lib.hid hl
  have HC := Lib.hid hc
  clear hx
  unfold maxLen at hc
  by_cases hbig : (1048576 : Int) < n
  · go_enter Try.func13, Try.ntmps13
    go_wp2_with fail
    go_ret
    exact ⟨rfl, Below.refl _ _⟩
  · have hs : (n : Int) ≤ 1048576 := by omega
    clear hbig
    go_enter Try.func13, Try.ntmps13
    go_wp2_with fail
    refine (DrawBookFind_any _ _ _ bs _ HX.out HL.out HC.out).mono ?_
    rintro e w1 ⟨B, k, cb, zss, D, m, d, zs, rfl, hB, hk7, hr, hmd, hdm, hm, hb1⟩
    have HB1 := Lib.hid hB
    have HR1 := Lib.hid hr
    have Hb1 := Lib.hid hb1
    have HT : Hid (tot zss ≤ 1048576) := by
      have h1 := tot_six hB.tot
      have h2 := hB.len
      unfold Hid; omega
    have HK : Hid (k ≤ maxLen) := by unfold Hid maxLen; omega
    clear hB hr hb1 hl hc hs hmd hdm
    go_wp2_with fail
    refine (implBookFind_any _ _ _ zss _ _ _ zs _ HB1.out.rd HK.out HT.out HR1.out (by omega)).mono ?_
    rintro e w2 ⟨rfl, hb2⟩
    have HB2 := Lib.hid (HB1.out.below hb2)
    have HR2 := Lib.hid (RdI.below HR1.out hb2)
    have Hb2 := Lib.hid (below_seq Hb1.out hb2)
    clear hb2 HB1 HR1 Hb1
    go_wp2_with fail
    refine (specBookFind_any _ _ _ zss _ _ _ zs _ HB2.out.rd (by omega) HT.out HR2.out (by omega)).mono ?_
    rintro e w3 ⟨rfl, m3, rfl⟩
    have HB3 : Hid (BookR (w2.drewN m3) w.heap.size (.slice B k cb) k zss) := HB2.out.below (below_of_drewN _ _ m3)
    have HR3 := Lib.hid (RdI.drewN HR2.out m3)
    have Hb3 := Lib.hid (below_seqD Hb2.out m3)
    generalize w2.drewN m3 = w3 at HB3 HR3 Hb3 ⊢
    clear HB2 HR2 Hb2
    by_cases hneg : Bk.find zss zs < 0
    · have hd : decide (Bk.find zss zs < 0) = true := decide_eq_true hneg
      clear hneg
      go_wp2_with fail
      go_ret
      exact ⟨rfl, Hb3.out⟩
    · have hd : decide (Bk.find zss zs < 0) = false := decide_eq_false hneg
      obtain ⟨q, hq, hv, hzq⟩ := Bk.find_some (show 0 ≤ Bk.find zss zs by omega)
      have hqk : q < k := by rw [← HB3.out.len]; exact (List.getElem?_eq_some_iff.1 hzq).1
      have HF1 := Lib.hid (Bk.find_erase hv hzq)
      have HF2 := Lib.hid (Bk.reads_code hv hzq)
      have HF3 := Lib.hid (Bk.valid_erase hv q)
      have HZQ := Lib.hid hzq
      obtain ⟨hkc, hcm, hform⟩ := HB3.out.form
      obtain ⟨b0, rfl, hb0, hbw⟩ := hform (by omega)
      obtain ⟨rs, hro, hri⟩ := HB3.out.own
      have hrl : rs.length = k := by have := hro.1; omega
      obtain ⟨i0, hi, hz0, hz1, hz2⟩ := info_parts Try.infoRows
      have HN1 : Hid (∀ W, Below w3.heap.size w3 W → ∀ j u, (rs.take q)[j]? = some u → W.cell? ((⟨b0, 0, none⟩ : Addr).add j) = some u) := by
        intro W hbW j u hj
        rw [List.getElem?_take] at hj
        split at hj
        · rename_i hjq
          have h1 := (hro.cellAt j (by omega)).trans hj
          have h2 := (hbW.cell (p := ⟨b0, j, none⟩) hb0).trans h1
          rw [Addr.add_lit, Nat.zero_add]
          exact h2
        · cases hj
      have HN2 : Hid (∀ W, Below w3.heap.size w3 W → ∀ j u, (rs.drop (q + 1))[j]? = some u → W.cell? ((⟨b0, q + 1, none⟩ : Addr).add j) = some u) := by
        intro W hbW j u hj
        rw [List.getElem?_drop] at hj
        have hjl := (List.getElem?_eq_some_iff.1 hj).1
        have h1 := (hro.cellAt (q + 1 + j) (by omega)).trans hj
        have h2 := (hbW.cell (p := ⟨b0, q + 1 + j, none⟩) hb0).trans h1
        rw [Addr.add_lit]
        exact h2
      have HONE : Hid (∀ u ∈ rs, u.oneCell' = true) := by
        intro u hu
        obtain ⟨j, hj⟩ := List.mem_iff_getElem?.1 hu
        obtain ⟨A', n', c', us, rfl, _⟩ := hri j u hj
        rfl
      have j0 : (0 : Int) ≤ (q : Int) := by omega
      have j1 : (q : Int) ≤ (k : Int) := by omega
      have j2 : (q : Int) ≤ (cb : Int) := by omega
      have j3 : (q : Int) + 1 ≤ (k : Int) := by omega
      have j4 : (0 : Int) ≤ (q : Int) + 1 := by omega
      have j5 : (q : Int) < (k : Int) := by omega
      have v1 : IntKind.i64.wrap ((q : Int) + 1) = (q : Int) + 1 := IntWalk.i64_in _ (by omega)
      have v2 : ((q : Int) + 1).toNat = q + 1 := by omega
      rw [hq] at hd ⊢
      have HRI0 := Lib.hid hri
      clear hneg hq hv hzq hform hro hri
      go_upto_region 8 with fail
      obtain ⟨A5, hA5, hA5n⟩ : ∃ A5 : Addr, (if cb = q + 1 then some (⟨b0, 0, none⟩ : Addr) else some ⟨b0, q + 1, none⟩) = some A5 ∧ (q + 1 < k → A5 = ⟨b0, q + 1, none⟩) := by
        by_cases e : cb = q + 1
        · exact ⟨_, by rw [if_pos e], fun h => by omega⟩
        · exact ⟨_, by rw [if_neg e], fun _ => rfl⟩
      have HN3 : Hid (∀ W, Below w3.heap.size w3 W → ∀ j u, (rs.drop (q + 1))[j]? = some u → W.cell? (A5.add j) = some u) := by
        intro W hbW j u hj
        have hjl := (List.getElem?_eq_some_iff.1 hj).1
        rw [List.length_drop] at hjl
        rw [hA5n (by omega)]
        exact HN2.out W hbW j u hj
      have HA5 := Lib.hid hA5n
      clear hA5n
      have HB0 : Hid (Below w3.heap.size w3 (w3.alloc (.cells #[] 23)).drew) := ((Below.refl _ _).alloc (Nat.le_refl _) _).drew
      have HO0 : Hid ((w3.alloc (.cells #[] 23)).drew.ownsRow w3.heap.size 23 1 (.slice (some ⟨w3.heap.size, 0, none⟩) 0 0) 0 []) := own_lit0 w3 _
      have HRI : Hid (∀ W, Below w3.heap.size w3 W → ∀ (k : Nat) r, rs[k]? = some r → ∃ A' n' c' zs, r = .slice A' n' c' ∧ zss[k]? = some zs ∧ RdI W A' n' zs ∧ n' ≤ c' ∧ c' ≤ maxLen) := by
        intro W hbW j r hj
        obtain ⟨A', n', c', us, e1, e2, e3, e4, e5, _⟩ := HRI0.out j r hj
        exact ⟨A', n', c', us, e1, e2, RdI.below e3 hbW, e4, e5⟩
      go_region_law (first
        | (refine step_append_own _ rfl (.tmp 36) (.tmp 40) _ rfl w3.heap.size 23 i0 (.slice none 0 0) 1 24 Try.underlying42 hi hz0 hz1 hz2 rfl Nat.zero_lt_one _ (0 + q) ([] ++ rs.take q) rfl HO4.out A5 (k - (q + 1)) (cb - (q + 1)) (rs.drop (q + 1)) ?_ ?_ (HN3.out _ Hb4.out) ?_ ?_ ?_ ?_ ?_; (simp [Act.eval]); (simp; omega); exact (fun u hu => HONE.out u (List.mem_of_mem_drop hu)); (unfold maxLen; omega); omega; exact Hb4.out.size; intro v5 w5 hown5 hgrow5 hat5; have HO5 := Lib.hid hown5; have HG5 := Lib.hid hgrow5)
        | (refine step_append_own _ rfl (.tmp 32) (.tmp 35) _ rfl w3.heap.size 23 i0 (.slice none 0 0) 1 24 Try.underlying42 hi hz0 hz1 hz2 rfl Nat.zero_lt_one _ 0 [] rfl HO0.out ⟨b0, 0, none⟩ q cb (rs.take q) ?_ ?_ (HN1.out _ HB0.out) ?_ ?_ ?_ ?_ ?_; (simp [Act.eval]); (simp; omega); exact (fun u hu => HONE.out u (List.mem_of_mem_take hu)); (unfold maxLen; omega); omega; exact HB0.out.size; intro v4 w4 hown4 hgrow4 _; have HO4 := Lib.hid hown4; have Hb4 : Hid (Below w3.heap.size w3 w4) := HB0.out.grown hgrow4 HB0.out.size (fun r h => by cases h; exact Nat.le_refl _)))
      have Hb5 : Hid (Below w3.heap.size w3 w5) := Hb4.out.grown HG5.out Hb4.out.size (fun r h => (HO4.out.lt r h).1)
      obtain ⟨A7, c7, rfl, f1, f2, _⟩ := own_form HO5.out
      obtain ⟨nn, hnn⟩ : ∃ nn, nn = 0 + q + (k - (q + 1)) := ⟨_, rfl⟩
      rw [← hnn] at HO5 ⊢
      have hnn8 : nn ≤ 8 := by omega
      have HB5 := Lib.hid (HB3.out.below Hb5.out)
      have HR5 := Lib.hid (RdI.below HR3.out Hb5.out)
      have hel : (zss.eraseIdx q).length = nn := by
        rw [List.length_eraseIdx, HB3.out.len, if_pos hqk]; omega
      have HM5 : Hid (RdM w5 A7 nn (zss.eraseIdx q)) := rest_rd HO5.out (HRI.out _ Hb5.out) (by rw [hrl, HB3.out.len]) hel
      have Hbw := Lib.hid (below_seq Hb3.out Hb5.out)
      have HTE : Hid (tot (zss.eraseIdx q) ≤ 1048576) := by
        have h1 := tot_six (zss := zss.eraseIdx q) (fun zs hz => HB3.out.tot zs ((List.eraseIdx_sublist zss q).mem hz))
        unfold Hid; omega
      have HKE : Hid (nn ≤ maxLen) := by unfold Hid maxLen; omega
      obtain ⟨A6, n6, c6, z6, hc6, hz6, hr6, h61, h62, h63⟩ := HB5.out.at_ hqk
      have hzz : z6 = zs := by have := HZQ.out; rw [hz6] at this; exact Option.some.inj this
      subst hzz
      have HR6 := Lib.hid hr6
      clear hr6 hz6 hel hA5 hnn v1 v2 HN1 HN2 HN3 HO0 HB0 HO4 Hb4 HG5 HRI
      go_wp2_with fail
      refine (sameInts_any _ _ _ _ _ _ z6 z6 _ HR6.out HR5.out (by omega)).mono ?_
      rintro e w6 ⟨rfl, m6, rfl⟩
      rw [decide_eq_true (rfl : z6 = z6)]
      have HM6 : Hid (RdM (w5.drewN m6) _ _ _) := HM5.out.drewN m6
      have HR7 := Lib.hid (RdI.drewN HR5.out m6)
      have HB6 : Hid (BookR (w5.drewN m6) _ _ _ _) := HB5.out.below (below_of_drewN _ _ m6)
      have Hb6 := Lib.hid (below_seqD Hbw.out m6)
      generalize w5.drewN m6 = w6 at HM6 HR7 HB6 Hb6 ⊢
      clear HM5 HR5 HB5 Hbw HR6 hc6
      go_wp2_with fail
      refine (implBookFind_any _ _ _ (zss.eraseIdx q) _ _ _ z6 _ HM6.out HKE.out HTE.out HR7.out (by omega)).mono ?_
      rintro e w7 ⟨rfl, hb7⟩
      rw [HF1.out]
      have HM7 := Lib.hid (RdM.below HM6.out hb7)
      have HR8 := Lib.hid (RdI.below HR7.out hb7)
      have HB7 := Lib.hid (HB6.out.below hb7)
      have Hb7 := Lib.hid (below_seq Hb6.out hb7)
      clear hb7 HM6 HR7 HB6 Hb6
      go_wp2_with fail
      refine (implBookReadings_any _ _ _ zss _ _ _ z6 _ HB7.out.rd HK.out HT.out HR8.out (by omega)).mono ?_
      rintro e w8 ⟨rfl, hb8⟩
      have HM8 := Lib.hid (RdM.below HM7.out hb8)
      have Hb8 := Lib.hid (below_seq Hb7.out hb8)
      have hd1 : decide ((1 : Int) ≤ Bk.reads zss z6) = true := decide_eq_true HF2.out
      clear hb8 HM7 HR8 HB7 Hb7
      go_wp2_with fail
      refine (implBookValid_any _ _ _ (zss.eraseIdx q) _ HM8.out HKE.out HTE.out).mono ?_
      rintro e w9 ⟨rfl, hb9⟩
      rw [HF3.out]
      have Hb9 := Lib.hid (below_seq Hb8.out hb9)
      clear hb9 HM8 Hb8
      go_wp2_with fail
      go_ret
      exact ⟨rfl, Hb9.out⟩
end Go.Proofs.Ytpfgjkgjeejghaa
