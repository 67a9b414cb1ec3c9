/-
  Contract of the program's PathRun.
  Conditions: the runs read as a list of integers.
-/
import Derived.Test.YtpfgjkgjeejghaaPath8
import Derived.Test.YtpfgjkgjeejghaaLawPath3
import Derived.Deep.CutRange
namespace Go.Proofs.Ytpfgjkgjeejghaa
open Go.RowKit
set_option linter.unusedVariables false
attribute [local go_sem ↓] Go.wp_at_zero Go.wp_at_succ

/-- What impl.PathRun holds on to: the result's block, the path's box, the path's two lists. -/
structure RunB (w : World) (n p g h : Nat) (xs ys : List Int) (V : World) : Prop where
  bel : Below w.heap.size w V
  res : Room2 V w.heap.size (.slice none 0 0) (.slice none 0 0)
  box : Room2 V p (.slice (some ⟨g, 0, none⟩) n n) (.slice (some ⟨h, 0, none⟩) n n)
  ox : V.ownsRow w.heap.size 3 1 (.slice (some ⟨g, 0, none⟩) n n) n (xs.map (Value.int .i64))
  oy : V.ownsRow w.heap.size 3 1 (.slice (some ⟨h, 0, none⟩) n n) n (ys.map (Value.int .i64))
  d : w.heap.size < p ∧ w.heap.size < g ∧ w.heap.size < h ∧ g ≠ h ∧ g ≠ p ∧ h ≠ p

theorem room2_of {V : World} {p : Nat} {v0 v1 : Value} {t : TypeId} (h : V.heap[p]? = some (.cells #[v0, v1] t)) : Room2 V p v0 v1 := by
  refine ⟨?_, ?_, ?_, ?_⟩ <;> simp [World.cell?, World.frozen?, h]
theorem four_blocks (w : World) (o0 o1 o2 o3 : Obj) : Below w.heap.size w ((((w.alloc o0).alloc o1).alloc o2).alloc o3).drew ∧ ((((w.alloc o0).alloc o1).alloc o2).alloc o3).drew.heap[w.heap.size]? = some o0 ∧
    ((((w.alloc o0).alloc o1).alloc o2).alloc o3).drew.heap[w.heap.size + 1]? = some o1 ∧ ((((w.alloc o0).alloc o1).alloc o2).alloc o3).drew.heap[w.heap.size + 1 + 1]? = some o2 ∧ ((((w.alloc o0).alloc o1).alloc o2).alloc o3).drew.heap[w.heap.size + 1 + 1 + 1]? = some o3 := by
  have b1 := (Below.refl w.heap.size w).alloc (Nat.le_refl _) o0
  have k0 := heap_alloc_new w o0
  have k1 := heap_alloc_new (w.alloc o0) o1
  have k2 := heap_alloc_new ((w.alloc o0).alloc o1) o2
  have k3 := heap_alloc_new (((w.alloc o0).alloc o1).alloc o2) o3
  have c1 : Below (w.alloc o0).heap.size (w.alloc o0) ((((w.alloc o0).alloc o1).alloc o2).alloc o3) := (((Below.refl _ _).alloc (Nat.le_refl _) _).alloc (by simp) _).alloc (by simp <;> omega) _
  have c2 : Below ((w.alloc o0).alloc o1).heap.size ((w.alloc o0).alloc o1) ((((w.alloc o0).alloc o1).alloc o2).alloc o3) := ((Below.refl _ _).alloc (Nat.le_refl _) _).alloc (by simp) _
  have c3 : Below (((w.alloc o0).alloc o1).alloc o2).heap.size (((w.alloc o0).alloc o1).alloc o2) ((((w.alloc o0).alloc o1).alloc o2).alloc o3) := (Below.refl _ _).alloc (Nat.le_refl _) _
  simp only [World.size_alloc] at k0 k1 k2 k3
  refine ⟨(below_seq b1 c1).drew, ?_, ?_, ?_, k3⟩
  · exact (c1.block _ (by simp)).trans k0
  · exact (c2.block _ (by simp)).trans k1
  · exact (c3.block _ (by simp)).trans k2
theorem runB_of {w V : World} {n p g h : Nat} {Z : Array Value} (hb : Below w.heap.size w V) (h0 : V.heap[w.heap.size]? = some (.cells #[.slice none 0 0, .slice none 0 0] 28)) (hp : V.heap[p]? = some (.cells #[.slice (some ⟨g, 0, none⟩) n n, .slice (some ⟨h, 0, none⟩) n n] 28))
    (hg : V.heap[g]? = some (.cells Z 3)) (hh : V.heap[h]? = some (.cells Z 3)) (hZ : Z.toList = List.replicate n (.int .i64 0) ∧ Z.size = n) (hn : n ≤ maxLen) (d : w.heap.size < p ∧ w.heap.size < g ∧ w.heap.size < h ∧ g ≠ h ∧ g ≠ p ∧ h ≠ p) :
    RunB w n p g h (List.replicate n 0) (List.replicate n 0) V := by
  have e : List.map (Value.int .i64) (List.replicate n 0) = List.replicate n (.int .i64 0) := by simp
  refine ⟨hb, room2_of h0, room2_of hp, ?_, ?_, d⟩
  · exact ⟨by simp, .inr ⟨g, n, Z, rfl, by omega, hg, Nat.le_refl _, hn, by simp [hZ.2], by rw [e, List.take_of_length_le (by simp [hZ.2]), hZ.1]⟩⟩
  · exact ⟨by simp, .inr ⟨h, n, Z, rfl, by omega, hh, Nat.le_refl _, hn, by simp [hZ.2], by rw [e, List.take_of_length_le (by simp [hZ.2]), hZ.1]⟩⟩
section
variable {w V V' : World} {n p g h : Nat} {xs ys : List Int}
theorem RunB.set0 (H : RunB w n p g h xs ys V) (k : Nat) (z : Int) : RunB w n p g h (xs.set k z) ys (V.setCell ⟨g, k, none⟩ (.int .i64 z)) := by
  obtain ⟨d1, d2, d3, d4, d5, d6⟩ := H.d
  refine ⟨H.bel.setCell (p := ⟨g, k, none⟩) (by simp; omega) _, H.res.far (by omega) _, H.box.far (by omega) _, ?_, own_setFar H.oy (fun r hr => by simp [Value.ownBlock] at hr; omega) _, H.d⟩
  have := (H.ox.stored k (.int .i64 z)).1
  rw [← List.map_set] at this
  exact this
theorem RunB.set1 (H : RunB w n p g h xs ys V) (k : Nat) (z : Int) : RunB w n p g h xs (ys.set k z) (V.setCell ⟨h, k, none⟩ (.int .i64 z)) := by
  obtain ⟨d1, d2, d3, d4, d5, d6⟩ := H.d
  refine ⟨H.bel.setCell (p := ⟨h, k, none⟩) (by simp; omega) _, H.res.far (by omega) _, H.box.far (by omega) _, own_setFar H.ox (fun r hr => by simp [Value.ownBlock] at hr; omega) _, ?_, H.d⟩
  have := (H.oy.stored k (.int .i64 z)).1
  rw [← List.map_set] at this
  exact this
theorem RunB.below (H : RunB w n p g h xs ys V) (hb : Below V.heap.size V V') : RunB w n p g h xs ys V' :=
  ⟨below_seq H.bel hb, H.res.later hb, H.box.later hb, own_belowAll H.ox hb, own_belowAll H.oy hb, H.d⟩
end
theorem fill_set (l : List Int) (n k : Nat) (z : Int) (hl : l.length = k) (hk : k < n) : (l ++ List.replicate (n - k) 0).set k z = (l ++ [z]) ++ List.replicate (n - (k + 1)) 0 := by
  rw [List.set_append_right _ _ (by omega), hl, Nat.sub_self]
  have : n - k = (n - (k + 1)) + 1 := by omega
  rw [this, List.replicate_succ]
  simp
theorem Pt.runOk_no {s : Int} {rs : List Int} (h : ¬ (Pt.runsOk rs = true ∧ 0 ≤ s ∧ s ≤ 2000)) : Pt.runOk s rs = false := by
  unfold Pt.runOk
  cases e : Pt.runsOk rs
  · rfl
  · rw [decide_eq_false (by intro h'; exact h ⟨e, h'⟩)]; rfl
theorem Pt.runOk_at {s : Int} {rs : List Int} (h : Pt.runsOk rs = true) (h0 : 0 ≤ s) (h1 : s ≤ 2000) : Pt.runOk s rs = Pt.valid (rs.length : Int) (Pt.ins s rs rs.length) (Pt.outs s rs rs.length) := by
  unfold Pt.runOk
  rw [h, decide_eq_true ⟨h0, h1⟩]; rfl
theorem ownP_nil (w : World) (B : Nat) : OwnP w B none 0 0 [] none 0 0 [] := ⟨World.ownsRow_nil _ _ _ _, World.ownsRow_nil _ _ _ _, fun g r h => by simp [Value.ownBlock] at h⟩

set_option maxRecDepth 100000 in
set_option maxHeartbeats 8000000 in
theorem implPathRun_any (A : Option Addr) (n c : Nat) (rs : List Int) (s : Int) (w : World) (hx : RdI w A n rs) (hn : n ≤ 1099511627776) :
    Calls Try.prog 30 #[.int .i64 s, .slice A n c] w fun e w' => ∃ G k g H l h, e = .returned (.tuple #[pv G k g H l h, .bool (Pt.runOk s rs)]) ∧ OwnP w' w.heap.size G k g (Pt.runI s rs) H l h (Pt.runO s rs) ∧ Below w.heap.size w w' := by
  have HB0 : Hid (Below w.heap.size w (w.alloc (.cells #[.slice none 0 0, .slice none 0 0] 28))) := (Below.refl w.heap.size w).alloc (Nat.le_refl _) _
  have HX := Lib.hid hx
  have Hl := Lib.hid hx.len
  clear hx
  by_cases hok : Pt.runsOk rs = true ∧ 0 ≤ s ∧ s ≤ 2000
  · obtain ⟨hro, hs0, hs1⟩ := hok
    have hN : 1 ≤ n ∧ n ≤ 5 := by
      have := hro
      unfold Pt.runsOk at this
      simp only [Bool.and_eq_true, decide_eq_true_eq] at this
      rw [Hl.out] at this
      exact this.1
    obtain ⟨hn1, hn5⟩ := hN
    have HRO := Lib.hid hro
    have HR1 : Hid (Pt.runs1 rs = true) := by
      have := hro
      unfold Pt.runsOk at this
      simp only [Bool.and_eq_true] at this
      exact this.2
    have HOK := Lib.hid (Pt.runOk_at hro hs0 hs1)
    clear hro
    obtain ⟨i0, hi, hz0, hz1, hz2⟩ := info_parts Try.infoInt
    obtain ⟨Z, hZ, hZs, hmk⟩ : ∃ Z : Array Value, Z.toList = List.replicate n (.int .i64 0) ∧ Z.size = n ∧ ∀ W : World, (Instr.makeSlice 23 (.int .i64 (n : Int)) (.int .i64 (n : Int))).run Try.prog W = .ok (.slice (some ⟨W.heap.size, 0, none⟩) n n) (W.alloc (.cells Z 3)) := by
      refine ⟨madeCells #[.int .i64 0] n, toList_madeCells_one _ _, by simp [size_madeCells], fun W => ?_⟩
      have := run_makeSlice (P := Try.prog) W 23 3 i0 (.int .i64 0) Try.underlying23 hi hz0 .i64 .i64 (n : Int) (n : Int) (by omega) (by omega) (by rw [hz1]; simp; omega) (by rw [hz2]; omega) (by omega)
      rw [hz1] at this
      simpa [Value.cells] using this
    clear hi hz0 hz1 hz2
    have HZ := Lib.hid (And.intro hZ hZs)
    clear hZ hZs
    go_enter Try.func30, Try.ntmps30
    go_wp2_with fail
    refine (runsValid_any _ _ _ rs _ (RdI.below HX.out HB0.out)).mono ?_
    rintro e w1 ⟨rfl, rfl⟩
    rw [HRO.out]
    go_upto_region 4 with fail
    go_cut [7] from 11 to 57 (fun v wx => ∃ p g h, v = .pointer (some ⟨p, 0, none⟩) ∧ Hid (RunB w n p g h (List.replicate n 0) (List.replicate n 0) wx))
    case first =>
      go_region
      all_goals (go_wp2_with fail)
      all_goals go_meet
      all_goals (
        obtain ⟨b, k0, k1, k2, k3⟩ := four_blocks w _ _ _ _
        first
          | exact ⟨_, _, _, rfl, runB_of b k0 k3 k1 k2 HZ.out (by unfold maxLen; omega) (by omega)⟩
          | exact ⟨_, _, _, rfl, runB_of b k0 k3 k2 k1 HZ.out (by unfold maxLen; omega) (by omega)⟩
          | exact ⟨_, _, _, rfl, runB_of b k0 k2 k1 k3 HZ.out (by unfold maxLen; omega) (by omega)⟩
          | exact ⟨_, _, _, rfl, runB_of b k0 k2 k3 k1 HZ.out (by unfold maxLen; omega) (by omega)⟩
          | exact ⟨_, _, _, rfl, runB_of b k0 k1 k2 k3 HZ.out (by unfold maxLen; omega) (by omega)⟩
          | exact ⟨_, _, _, rfl, runB_of b k0 k1 k3 k2 HZ.out (by unfold maxLen; omega) (by omega)⟩)
    case rest =>
      obtain ⟨p, g, h, rfl, HC⟩ := hcut
      clear hmk HZ
      go_wp2_with fail
      go_loopw [8, 34] (fun t i wr => ∃ k : Nat, k ≤ n ∧ i = .int .i64 k ∧ t = .int .i64 (Pt.tm s rs k) ∧ Hid (RunB w n p g h (Pt.ins s rs k ++ List.replicate (n - k) 0) (Pt.outs s rs k ++ List.replicate (n - k) 0) wr)) (fun _ i _ => n - (intOf i).toNat)
      case atStart => exact ⟨0, Nat.zero_le _, rfl, rfl, by simpa [Hid, Pt.ins, Pt.outs] using HC.out⟩
      case round =>
        obtain ⟨k, hk, rfl, rfl, Hr⟩ := hrel
        by_cases hlt : k < n
        · obtain ⟨b1, o1, x, rfl, hxk, hcx0⟩ := HX.out.at_ hlt
          have hcx : wr.cell? ⟨b1, o1 + k, none⟩ = some (.int .i64 x) := (Hr.out.bel.cell (block_lt_of_cell hcx0)).trans hcx0
          obtain ⟨hx1, hx2⟩ := Pt.runs1_at HR1.out hxk
          obtain ⟨ht1, ht2⟩ := Pt.tm_bound HR1.out hs0 hs1 k (by rw [Hl.out]; omega)
          have HT : Hid (Pt.tm s rs (k + 1) = Pt.tm s rs k + x) := by
            unfold Hid; simp only [Pt.tm]; rw [List.getD_eq_getElem?_getD, hxk]; rfl
          obtain ⟨d1, d2, d3, d4, d5, d6⟩ := Hr.out.d
          obtain ⟨c0, c1, _, _⟩ := Hr.out.box
          have hlb : b1 < w.heap.size := block_lt_of_cell hcx0
          obtain ⟨u, hu⟩ : ∃ u, wr.cell? ⟨g, k, none⟩ = some u := by
            rw [Hr.out.ox.cellAt k (by omega)]
            exact ⟨_, List.getElem?_eq_getElem (by simp [Pt.ins_len]; omega)⟩
          obtain ⟨v, hv⟩ : ∃ v, wr.cell? ⟨h, k, none⟩ = some v := by
            rw [Hr.out.oy.cellAt k (by omega)]
            exact ⟨_, List.getElem?_eq_getElem (by simp [Pt.outs_len]; omega)⟩
          have fu : wr.frozen? ⟨g, k, none⟩ = false := Hr.out.ox.frozenAt k
          have fv : wr.frozen? ⟨h, k, none⟩ = false := Hr.out.oy.frozenAt k
          have e1 : ¬ g = p := d5
          have e2 : ¬ p = g := fun e => d5 e.symm
          have e3 : ¬ g = h := d4
          have e4 : ¬ h = g := fun e => d4 e.symm
          clear hcx0 hxk d1 d2 d3 d4 d5 d6
          go_wp2_with fail
          go_roundw
          case rel =>
            refine ⟨k + 1, by omega, by go_num, by rw [HT.out], ?_⟩
            have h1 := (Hr.out.set0 k (Pt.tm s rs k)).set1 k (Pt.tm s rs (k + 1))
            rw [fill_set _ _ _ _ (Pt.ins_len _ _ _) hlt, fill_set _ _ _ _ (Pt.outs_len _ _ _) hlt, ← Pt.ins_succ, ← Pt.outs_succ, HT.out] at h1
            exact h1
          case measure => simp [intOf]; omega
        · have hkn : k = n := by omega
          subst hkn
          have HF : Hid (RunB w k p g h (Pt.ins s rs k) (Pt.outs s rs k) wr) := by have := Hr.out; simpa [Hid] using this
          clear Hr HC
          have HVL : Hid (Pt.runOk s rs = Pt.valid (k : Int) (Pt.ins s rs k) (Pt.outs s rs k)) := by have := HOK.out; rw [Hl.out] at this; exact this
          cases hvl : Pt.runOk s rs with
          | true =>
            have HI : Hid (Pt.runI s rs = Pt.ins s rs k ∧ Pt.runO s rs = Pt.outs s rs k) := by unfold Hid Pt.runI Pt.runO; rw [hvl, Hl.out]; exact ⟨rfl, rfl⟩
            have HVT : Hid (Pt.valid (k : Int) (Pt.ins s rs k) (Pt.outs s rs k) = true) := by rw [← HVL.out]; exact hvl
            have HVR := Lib.hid hvl
            clear hvl
            go_wp2_with fail
            refine (implValid_any _ _ _ _ _ _ _ (Pt.ins s rs k) (Pt.outs s rs k) _ _ HF.out.box.1 HF.out.box.2.1 (RdI.of_own HF.out.ox) (RdI.of_own HF.out.oy)).mono ?_
            rintro e w2 ⟨rfl, m2, rfl⟩
            rw [HVT.out]
            have HG := Lib.hid (HF.out.below (below_of_drewN _ _ m2))
            generalize wr.drewN m2 = w2 at HG ⊢
            obtain ⟨c0, c1, _, _⟩ := HG.out.box
            obtain ⟨r0, r1, fr0, fr1⟩ := HG.out.res
            obtain ⟨d1, d2, d3, d4, d5, d6⟩ := HG.out.d
            go_wp2_with fail
            refine bodyPost_ret (v := .tuple #[pv (some ⟨g, 0, none⟩) k k (some ⟨h, 0, none⟩) k k, .bool true]) (by simp [results, Try.results30, go_sem, r0, r1]) rfl ?_
            refine ⟨_, _, _, _, _, _, by rw [HVR.out], ?_, ?_⟩
            · rw [HI.out.1, HI.out.2]
              refine ⟨own_setFar (own_setFar HG.out.ox (fun r hr => by simp [Value.ownBlock] at hr; omega) _) (fun r hr => by simp [Value.ownBlock] at hr; omega) _, own_setFar (own_setFar HG.out.oy (fun r hr => by simp [Value.ownBlock] at hr; omega) _) (fun r hr => by simp [Value.ownBlock] at hr; omega) _, ?_⟩
              intro g' r' hg' hr'
              simp [Value.ownBlock] at hg' hr'
              omega
            · exact below_set (below_set HG.out.bel (Nat.le_refl _) _) (Nat.le_refl _) _
          | false =>
            have HI : Hid (Pt.runI s rs = [] ∧ Pt.runO s rs = []) := by unfold Hid Pt.runI Pt.runO; rw [hvl]; exact ⟨rfl, rfl⟩
            have HVT : Hid (Pt.valid (k : Int) (Pt.ins s rs k) (Pt.outs s rs k) = false) := by rw [← HVL.out]; exact hvl
            have HVR := Lib.hid hvl
            clear hvl
            go_wp2_with fail
            refine (implValid_any _ _ _ _ _ _ _ (Pt.ins s rs k) (Pt.outs s rs k) _ _ HF.out.box.1 HF.out.box.2.1 (RdI.of_own HF.out.ox) (RdI.of_own HF.out.oy)).mono ?_
            rintro e w2 ⟨rfl, m2, rfl⟩
            rw [HVT.out]
            have HG := Lib.hid (HF.out.below (below_of_drewN _ _ m2))
            generalize wr.drewN m2 = w2 at HG ⊢
            obtain ⟨r0, r1, fr0, fr1⟩ := HG.out.res
            go_wp2_with fail
            refine bodyPost_ret (v := .tuple #[pv none 0 0 none 0 0, .bool false]) (by simp [results, Try.results30, go_sem, r0, r1]) rfl ?_
            exact ⟨_, _, _, _, _, _, by rw [HVR.out], by rw [HI.out.1, HI.out.2]; exact ownP_nil _ _, below_set (below_set HG.out.bel (Nat.le_refl _) _) (Nat.le_refl _) _⟩
  · have HV := Lib.hid (Pt.runOk_no hok)
    have HI : Hid (Pt.runI s rs = [] ∧ Pt.runO s rs = []) := by unfold Hid Pt.runI Pt.runO; rw [HV.out]; exact ⟨rfl, rfl⟩
    cases hro : Pt.runsOk rs with
    | false =>
      have HRO := Lib.hid hro
      clear hro hok
      go_enter Try.func30, Try.ntmps30
      go_wp2_with fail
      refine (runsValid_any _ _ _ rs _ (RdI.below HX.out HB0.out)).mono ?_
      rintro e w1 ⟨rfl, rfl⟩
      rw [HRO.out]
      go_wp2_with fail
      refine bodyPost_ret (v := .tuple #[pv none 0 0 none 0 0, .bool false]) (by simp [results, Try.results30, go_sem]) rfl ?_
      exact ⟨_, _, _, _, _, _, by rw [HV.out], by rw [HI.out.1, HI.out.2]; exact ownP_nil _ _, HB0.out⟩
    | true =>
      have HRO := Lib.hid hro
      by_cases hs : s < 0
      · clear hro hok
        go_enter Try.func30, Try.ntmps30
        go_wp2_with fail
        refine (runsValid_any _ _ _ rs _ (RdI.below HX.out HB0.out)).mono ?_
        rintro e w1 ⟨rfl, rfl⟩
        rw [HRO.out]
        go_wp2_with fail
        refine bodyPost_ret (v := .tuple #[pv none 0 0 none 0 0, .bool false]) (by simp [results, Try.results30, go_sem]) rfl ?_
        exact ⟨_, _, _, _, _, _, by rw [HV.out], by rw [HI.out.1, HI.out.2]; exact ownP_nil _ _, HB0.out⟩
      · have hs2 : 2000 < s := by
          apply Classical.byContradiction
          intro h
          exact hok ⟨hro, by omega, by omega⟩
        clear hro hok
        go_enter Try.func30, Try.ntmps30
        go_wp2_with fail
        refine (runsValid_any _ _ _ rs _ (RdI.below HX.out HB0.out)).mono ?_
        rintro e w1 ⟨rfl, rfl⟩
        rw [HRO.out]
        go_wp2_with fail
        refine bodyPost_ret (v := .tuple #[pv none 0 0 none 0 0, .bool false]) (by simp [results, Try.results30, go_sem]) rfl ?_
        exact ⟨_, _, _, _, _, _, by rw [HV.out], by rw [HI.out.1, HI.out.2]; exact ownP_nil _ _, HB0.out⟩
end Go.Proofs.Ytpfgjkgjeejghaa
