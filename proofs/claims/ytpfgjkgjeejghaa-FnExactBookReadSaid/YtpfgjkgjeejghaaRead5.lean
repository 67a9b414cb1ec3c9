/-
  Contract: BookRead (the program's).
  Conditions: the book reads as a list of lists, with at most 2^20 numbers.
-/
import Derived.Test.YtpfgjkgjeejghaaRead4
import Derived.Test.YtpfgjkgjeejghaaRead2
import Derived.Test.YtpfgjkgjeejghaaCodes5
import Derived.Deep.CutRange
namespace Go.Proofs.Ytpfgjkgjeejghaa
open Go.RowKit
set_option linter.unusedVariables false
attribute [local go_sem ↓] Go.wp_at_zero Go.wp_at_succ

/-- A choice as two numbers. -/
def Bk.c0 : Option (Nat × Nat) → Int
  | none => -1
  | some p => p.1
def Bk.c1 : Option (Nat × Nat) → Int
  | none => 0
  | some p => p.2
/-- The block g holds m + 1 choices; those from q on are F's. -/
def Bests (w : World) (g m q : Nat) (F : Nat → Option (Nat × Nat)) : Prop :=
  (∀ p, p ≤ m → (∃ u, w.cell? ⟨g, p * 2, none⟩ = some u) ∧ (∃ u, w.cell? ⟨g, p * 2 + 1, none⟩ = some u) ∧ w.frozen? ⟨g, p * 2, none⟩ = false ∧ w.frozen? ⟨g, p * 2 + 1, none⟩ = false) ∧
  ∀ p, q ≤ p → p ≤ m → w.cell? ⟨g, p * 2, none⟩ = some (.int .i64 (Bk.c0 (F p))) ∧ w.cell? ⟨g, p * 2 + 1, none⟩ = some (.int .i64 (Bk.c1 (F p)))
section
variable {w w' : World} {g m q : Nat} {F G : Nat → Option (Nat × Nat)}
theorem Bests.below (h : Bests w g m q F) (hb : Below w.heap.size w w') : Bests w' g m q F := by
  refine ⟨fun p hp => ?_, fun p hq hp => ?_⟩
  · obtain ⟨⟨u, h1⟩, ⟨v, h2⟩, h3, h4⟩ := h.1 p hp
    exact ⟨⟨u, (hb.cell (block_lt_of_cell h1)).trans h1⟩, ⟨v, (hb.cell (block_lt_of_cell h2)).trans h2⟩, (hb.frozen (block_lt_of_cell h1)).trans h3, (hb.frozen (block_lt_of_cell h2)).trans h4⟩
  · obtain ⟨h1, h2⟩ := h.2 p hq hp
    exact ⟨(hb.cell (block_lt_of_cell h1)).trans h1, (hb.cell (block_lt_of_cell h2)).trans h2⟩
theorem Bests.congr (h : Bests w g m q F) (he : ∀ p, q ≤ p → p ≤ m → F p = G p) : Bests w g m q G :=
  ⟨h.1, fun p hq hp => by rw [← he p hq hp]; exact h.2 p hq hp⟩
set_option linter.unusedSimpArgs false in
theorem Bests.put {p : Nat} (h : Bests w g m q F) (hp : p ≤ m) (hq : q ≤ p + 1) (o : Option (Nat × Nat)) :
    Bests ((w.setCell ⟨g, p * 2, none⟩ (.int .i64 (Bk.c0 o))).setCell ⟨g, p * 2 + 1, none⟩ (.int .i64 (Bk.c1 o))) g m p (fun j => if j = p then o else F j) := by
  obtain ⟨⟨u, e1⟩, ⟨v, e2⟩, e3, e4⟩ := h.1 p hp
  refine ⟨fun j hj => ?_, fun j hqj hj => ?_⟩
  · obtain ⟨⟨u', h1⟩, ⟨v', h2⟩, h3, h4⟩ := h.1 j hj
    by_cases e : j = p
    · subst e
      refine ⟨⟨.int .i64 (Bk.c0 o), ?_⟩, ⟨.int .i64 (Bk.c1 o), ?_⟩, ?_, ?_⟩ <;> simp [go_sem, e1, e2, e3, e4]
    · refine ⟨⟨u', ?_⟩, ⟨v', ?_⟩, ?_, ?_⟩ <;> simp [go_sem, e1, e2, e3, e4, h1, h2, h3, h4, e, show ¬ j * 2 = p * 2 by omega, show ¬ p * 2 = j * 2 by omega, show ¬ j * 2 = p * 2 + 1 by omega, show ¬ p * 2 + 1 = j * 2 by omega, show ¬ j * 2 + 1 = p * 2 by omega, show ¬ p * 2 = j * 2 + 1 by omega, show ¬ p = j by omega]
  · by_cases e : j = p
    · subst e
      dsimp only
      rw [if_pos rfl]
      refine ⟨?_, ?_⟩ <;> simp [go_sem, e1, e2, e3, e4]
    · dsimp only
      rw [if_neg e]
      obtain ⟨h1, h2⟩ := h.2 j (by omega) hj
      refine ⟨?_, ?_⟩ <;> simp [go_sem, e1, e2, e3, e4, h1, h2, e, show ¬ j * 2 = p * 2 by omega, show ¬ p * 2 = j * 2 by omega, show ¬ j * 2 = p * 2 + 1 by omega, show ¬ p * 2 + 1 = j * 2 by omega, show ¬ j * 2 + 1 = p * 2 by omega, show ¬ p * 2 = j * 2 + 1 by omega, show ¬ p = j by omega]
theorem Bests.drewN (h : Bests w g m q F) (k : Nat) : Bests (w.drewN k) g m q F := h
end
/-- The best choice at a place of a ring; at its end none is needed. -/
def Bk.bb (zss : List (List Int)) (zs : List Int) (p : Nat) : Option (Nat × Nat) := if p < zs.length then Bk.best1 zss (zs.drop p) else some (0, 0)
theorem Bk.bb_few {zss : List (List Int)} (hf : Bk.full zss) {zs : List Int} {p : Nat} (hp : p ≤ zs.length) : Bk.few1 zss (zs.drop p) = (Bk.bb zss zs p).map Prod.snd := by
  unfold Bk.bb
  by_cases h : p < zs.length
  · rw [if_pos h]
    exact Bk.few1_step hf (Bk.drop_ne h)
  · rw [if_neg h, List.drop_of_length_le (by omega)]; rfl
/-- What the choices are while place p is worked at: k codes are done. -/
def Bk.bF (zss : List (List Int)) (zs : List Int) (p k : Nat) (j : Nat) : Option (Nat × Nat) := if j = p then Bk.bst zss (zs.drop p) (Bk.few1 zss) k else Bk.bb zss zs j
theorem Bests.init {w : World} {base m : Nat} {e : TypeId} {g : Nat} {zss : List (List Int)} {zs : List Int} (h : w.ownsRow base e 2 (.slice (some ⟨g, 0, none⟩) (m + 1) (m + 1)) (m + 1) (madeCells #[.int .i64 0, .int .i64 0] ((m + 1) * 2)).toList) (hl : zs.length = m) : Bests w g m m (Bk.bb zss zs) := by
  have hc : ∀ j, j < (m + 1) * 2 → w.cell? ⟨g, j, none⟩ = some (.int .i64 0) := by
    intro j hj
    rw [h.cellAt j hj]
    have hsz : (madeCells #[Value.int .i64 0, Value.int .i64 0] ((m + 1) * 2)).size = (m + 1) * 2 := size_madeCells _ _
    rw [Array.getElem?_toList, Array.getElem?_eq_getElem (by rw [hsz]; exact hj)]
    congr 1
    simp [madeCells]
    rcases (show j % 2 = 0 ∨ j % 2 = 1 by omega) with e | e <;> simp [e]
  refine ⟨fun p hp => ⟨⟨_, hc _ (by omega)⟩, ⟨_, hc _ (by omega)⟩, h.frozenAt _, h.frozenAt _⟩, fun p hq hp => ?_⟩
  obtain rfl : p = m := by omega
  unfold Bk.bb
  rw [if_neg (by omega)]
  exact ⟨hc _ (by omega), hc _ (by omega)⟩
theorem Try.infoChoice : (Try.prog.info? 75).map (fun i => (i.zero, i.size, i.bytes)) = some (some (.agg #[.int .i64 0, .int .i64 0]), 2, 16) := by kernel_rfl
set_option maxRecDepth 100000 in
set_option maxHeartbeats 16000000 in
theorem implBookRead_any (A : Option Addr) (n c : Nat) (zss : List (List Int)) (A' : Option Addr) (m d : Nat) (zs : List Int) (w : World) (hx : RdM w A n zss) (hn : n ≤ maxLen) (ht : tot zss ≤ 1048576) (hy : RdI w A' m zs) (hm : m ≤ 1048576) :
    Calls Try.prog 44 #[.slice A n c, .slice A' m d] w (RetL 3 w.heap.size (Bk.readL zss zs) (Bk.readOk zss zs) w) := by
  have HX := Lib.hid hx
  have HY := Lib.hid hy
  have Hly := Lib.hid hy.len
  clear hx hy
  by_cases hok : Bk.valid zss = true ∧ Bk.ring zs = true
  · obtain ⟨hv, hr⟩ := hok
    have HF := Lib.hid (Bk.valid_full hv)
    have HRI := Lib.hid (Bk.readOk_iff hv hr)
    have HG : Hid (Cd.grp zs) := (Bk.ring_parts hr).1
    have hm20 : m ≤ 20 := by have := (Bk.ring_parts hr).2; have := Hly.out; omega
    have HALL : Hid (zs.all Cd.inB = true) := by
      unfold Hid; unfold Bk.ring at hr; simp only [Bool.and_eq_true] at hr; exact hr.1
    have HV := Lib.hid hv
    clear hv hr
    obtain ⟨i0, hi, hz0, hz1, hz2⟩ := info_parts Try.infoChoice
    go_enter Try.func44, Try.ntmps44
    go_wp2_with fail
    refine (bookOf_any _ _ _ zss _ HX.out hn ht).mono ?_
    rintro e w1 ⟨G, k, g, rfl, ho1, hb1⟩
    have HO1 := Lib.hid ho1
    have Hb1 := Lib.hid hb1
    clear ho1 hb1 hn
    rw [HV.out]
    go_wp2_with fail
    refine (beatsOf_any _ _ _ zs _ _ (RdI.below HY.out Hb1.out) (by omega) (by omega)).mono ?_
    rintro e w2 ⟨rfl, hb2⟩
    have HO2 := Lib.hid (own_belowAll HO1.out hb2)
    have Hb2 := Lib.hid (below_seq Hb1.out hb2)
    clear hb2 HO1 Hb1
    rw [Cd.groupsV_yes HALL.out]
    obtain ⟨s, hs⟩ : ∃ s, s = bstr zs := ⟨_, rfl⟩
    rw [← hs]
    have HS := Lib.hid hs
    have HSL : Hid (s.size = zs.length) := by unfold Hid; rw [hs, bstr_size]
    have hs20 : s.size ≤ 20 := by have := HSL.out; have := Hly.out; omega
    obtain ⟨hk, _⟩ := codes_at HO2.out HV.out
    have HK := Lib.hid hk
    have hk10 : k ≤ 10 := by have := (Bk.valid_parts HV.out).2; omega
    clear hs hk
    go_wp2_with (at_make; refine wpList_make_full _ rfl _ _ 73 rfl w2.heap.size 75 i0 (.agg #[.int .i64 0, .int .i64 0]) 2 Try.underlying73 hi hz0 hz1 _ _ _ _ (s.size + 1) rfl rfl rfl rfl ?b2 ?b3 ?b4 ?_)
    case b2 => rw [hz2]; omega
    case b3 => unfold maxLen; omega
    case b4 => exact Nat.le_refl _
    clear hi hz0 hz1 hz2
    intro w3 hown hgrow
    have HB3 : Hid (Bests w3 w2.heap.size s.size s.size (Bk.bb zss zs)) := Bests.init hown HSL.out.symm
    have Hb3 : Hid (Below w2.heap.size w2 w3) := (Below.refl _ _).grown hgrow (Nat.le_refl _) (fun k h => by cases h)
    clear hown hgrow
    go_wp2_with fail
    go_loopw [11] (fun i wr => ∃ a : Int, -1 ≤ a ∧ a < s.size ∧ i = .int .i64 a ∧ Hid (Bests wr w2.heap.size s.size (a + 1).toNat (Bk.bb zss zs)) ∧ Hid (Below w2.heap.size w2 wr)) (fun i _ => (intOf i + 1).toNat)
    case atStart => exact ⟨(s.size : Int) - 1, by omega, by omega, rfl, by rw [show ((s.size : Int) - 1 + 1).toNat = s.size by omega]; exact HB3.out, Hb3.out⟩
    case round =>
      obtain ⟨a, ha0, ham, rfl, Ho, Hb⟩ := hrel
      clear HB3 Hb3
      by_cases hneg : a < 0
      · obtain rfl : a = -1 := by omega
        have HBW : Hid (Bests wr w2.heap.size s.size 0 (Bk.bb zss zs)) := Ho.out
        obtain ⟨i1, hj, hy0, hy1, hy2⟩ := info_parts Try.infoInt
        clear Ho hneg ha0 ham
        have HZW : Hid (w2.heap.size < wr.heap.size) := block_lt_of_cell (HBW.out.2 0 (Nat.le_refl _) (Nat.zero_le _)).1
        go_wp2_with (at_make; refine wpList_make_own _ rfl _ _ 23 rfl wr.heap.size 3 i1 (.int .i64 0) 1 Try.underlying23 hj hy0 hy1 _ _ _ s.size rfl rfl rfl ?b2 ?b3 ?b4 ?_)
        case b2 => rw [hy2]; omega
        case b3 => unfold maxLen; omega
        case b4 => exact Nat.le_refl _
        intro w4 hown hgrow
        have HO4 := Lib.hid hown
        have Hb4 : Hid (Below wr.heap.size wr w4) := (Below.refl _ _).grown hgrow (Nat.le_refl _) (fun k h => by cases h)
        have HB4 : Hid (Bests w4 w2.heap.size s.size 0 (Bk.bb zss zs)) := HBW.out.below Hb4.out
        clear hown hgrow HBW
        go_wp2_with fail
        obtain ⟨wo, rfl⟩ : ∃ wo : World, wo = wr := ⟨_, rfl⟩
        go_loopw [15, 16] (fun v i wq => ∃ (p t : Nat) (acc : List Int), p ≤ s.size ∧ t ≤ p ∧ i = .int .i64 p ∧ v = .slice (some ⟨wo.heap.size, 0, none⟩) t s.size ∧ Hid (wq.ownsRow wo.heap.size 3 1 (.slice (some ⟨wo.heap.size, 0, none⟩) t s.size) t (acc.map (Value.int .i64))) ∧ Hid (Bests wq w2.heap.size s.size 0 (Bk.bb zss zs)) ∧ Hid (Below wo.heap.size wo wq) ∧ Hid ((p = 0 ∧ acc = []) ∨ (Bk.few1 zss zs ≠ none ∧ Bk.few1 zss (zs.drop p) ≠ none)) ∧ Hid (Bk.rd1 zss zs = acc ++ Bk.rd1 zss (zs.drop p))) (fun _ i _ => s.size - (intOf i).toNat)
        case atStart => exact ⟨0, 0, [], Nat.zero_le _, Nat.le_refl _, rfl, rfl, HO4.out, HB4.out, Hb4.out, Or.inl ⟨rfl, rfl⟩, rfl⟩
        case round =>
          obtain ⟨p, t, acc, hp, htp, rfl, rfl, Ho, HB, Hbq, HN, HR⟩ := hrel
          clear HO4 HB4 Hb4
          have HW2 : Hid (Below w2.heap.size w2 wr) := below_seq Hb.out Hbq.out
          have HW0 : Hid (Below w.heap.size w wr) := below_seq Hb2.out HW2.out
          have hszw : wo.heap.size ≤ wr.heap.size := Hbq.out.size
          by_cases hps : p < s.size
          · have hdn : zs.drop p ≠ [] := Bk.drop_ne (by rw [← HSL.out]; exact hps)
            obtain ⟨hcc0, _⟩ := HB.out.2 p (Nat.zero_le _) hp
            have hbb : Bk.bb zss zs p = Bk.best1 zss (zs.drop p) := by unfold Bk.bb; rw [if_pos (by rw [← HSL.out]; exact hps)]
            rw [hbb] at hcc0
            cases hb : Bk.best1 zss (zs.drop p) with
            | none =>
              have hfn : Bk.few1 zss (zs.drop p) = none := by rw [Bk.few1_step HF.out hdn, hb]; rfl
              have hp0 : p = 0 := by
                rcases HN.out with h | h
                · exact h.1
                · exact absurd hfn h.2
              have HOK : Hid (Bk.readOk zss zs = false) := by
                unfold Hid
                rw [hp0, List.drop_zero] at hfn
                cases hq : Bk.readOk zss zs
                · rfl
                · exact absurd hfn (HRI.out.1 hq)
              have HEL : Hid (Bk.readL zss zs = []) := Bk.readL_bad HOK.out
              rw [hb] at hcc0
              change wr.cell? ⟨w2.heap.size, p * 2, none⟩ = some (.int .i64 (-1)) at hcc0
              clear hb hbb hdn hfn hp0
              go_wp2_with fail
              go_ret2
              exact ⟨_, _, _, by rw [HOK.out]; rfl, by rw [HEL.out]; exact own_base (own_lit0 wr _) HW0.out.size, HW0.out.alloc HW0.out.size _⟩
            | some o =>
              obtain ⟨ib, q⟩ := o
              rw [hb] at hcc0
              change wr.cell? ⟨w2.heap.size, p * 2, none⟩ = some (.int .i64 (ib : Nat)) at hcc0
              have hbs := Bk.bst_spec _ _ _ hb
              have HST := Lib.hid (Bk.rd1_step HF.out hdn hb)
              have HNX := Lib.hid (Bk.best_next hb)
              have HF0 : Hid (Bk.few1 zss zs ≠ none) := by
                rcases HN.out with h | h
                · unfold Hid
                  have h1 := h.1
                  have h2 := Bk.few1_step HF.out hdn
                  rw [hb, h1, List.drop_zero] at h2
                  rw [h2]; simp
                · exact h.1
              obtain ⟨hin, hpre, _, _⟩ := hbs
              have hik : ib < k := by rw [HK.out]; exact hin
              obtain ⟨cd, hc⟩ : ∃ c, zss[ib]? = some c := ⟨_, List.getElem?_eq_getElem hin⟩
              obtain ⟨a0, rfl, hcell0⟩ := (codes_at (own_belowAll HO2.out HW2.out) HV.out).2 ib cd hc
              have HGD : Hid (zss.getD ib [] = cd) := Bk.getD_at hc
              have hcv := Cd.valid_grp (Bk.valid_at HV.out hc).1
              obtain ⟨cS, hcS⟩ : ∃ cS, cS = bstr cd := ⟨_, rfl⟩
              have hcz : cS.size = cd.length := by rw [hcS, bstr_size]
              have hle : p + cS.size ≤ s.size := by
                have h1 := Bk.pre_len hpre
                rw [HGD.out, List.length_drop, ← HSL.out, ← hcz] at h1
                omega
              have HCZ := Lib.hid hcz
              have hc15 : 1 ≤ cS.size ∧ cS.size ≤ 5 := by rw [hcz]; exact hcv.2
              obtain ⟨hc1, hc5⟩ := hc15
              have hd1 : decide ((ib : Int) < 0) = false := decide_eq_false (by omega)
              have HCL : Hid (wr.cell? ⟨a0, ib, none⟩ = some (.string cS)) := by rw [hcS]; exact hcell0
              have ha0 : a0 < w2.heap.size := (HO2.out.lt a0 rfl).2
              clear hb hbb hdn hpre hin hc hcv hcS hcz hcell0
              have hown := Ho.out
              go_wp2_with (at_builtin; refine wpList_append_fits _ rfl _ _ 23 rfl wo.heap.size 3 i1 1 Try.underlying23 hj hy1 wo.heap.size t s.size _ rfl (hown.alloc _) ⟨wr.heap.size, 0, none⟩ 1 1 [.int .i64 ib] rfl rfl (cell_new _ _ _) (one_cell _ rfl) (by omega) ?_)
              intro w5 hown2 hgrow2
              have Ho2 := Lib.hid hown2
              have Hbq2 : Hid (Below wo.heap.size wo w5) := (Hbq.out.alloc Hbq.out.size (.cells #[.int .i64 ib] 3)).grown hgrow2 (by have := Hbq.out.size; simp; omega) (fun g h => by cases h; exact Nat.le_refl _)
              have HB5 : Hid (Bests w5 w2.heap.size s.size 0 (Bk.bb zss zs)) := by
                have ha : Bests (wr.alloc (.cells #[.int .i64 ib] 3)) w2.heap.size s.size 0 (Bk.bb zss zs) := HB.out.below ((Below.refl _ _).alloc (Nat.le_refl _) _)
                have h1 : w2.heap.size < wo.heap.size := HZW.out
                have hr : some w2.heap.size ≠ some wo.heap.size := fun e => by have := Option.some.inj e; omega
                have hl : w2.heap.size < (wr.alloc (.cells #[.int .i64 ib] 3)).heap.size := by simp; omega
                have hbk := hgrow2.block _ hl hr
                refine ⟨fun j hj => ?_, fun j hj0 hj => ?_⟩
                · obtain ⟨⟨u, h1⟩, ⟨v, h2⟩, h3, h4⟩ := ha.1 j hj
                  exact ⟨⟨u, (World.cell?_of_block (a := ⟨w2.heap.size, j * 2, none⟩) hbk).trans h1⟩, ⟨v, (World.cell?_of_block (a := ⟨w2.heap.size, j * 2 + 1, none⟩) hbk).trans h2⟩, (World.frozen?_of_block (a := ⟨w2.heap.size, j * 2, none⟩) hbk).trans h3, (World.frozen?_of_block (a := ⟨w2.heap.size, j * 2 + 1, none⟩) hbk).trans h4⟩
                · obtain ⟨h1, h2⟩ := ha.2 j hj0 hj
                  exact ⟨(World.cell?_of_block (a := ⟨w2.heap.size, j * 2, none⟩) hbk).trans h1, (World.cell?_of_block (a := ⟨w2.heap.size, j * 2 + 1, none⟩) hbk).trans h2⟩
              have hcell : w5.cell? ⟨a0, ib, none⟩ = some (.string cS) := by
                have h1 : w2.heap.size < wo.heap.size := HZW.out
                exact hgrow2.cell (a := ⟨a0, ib, none⟩) ((World.cell?_alloc_lt _ _ _ (block_lt_of_cell HCL.out)).trans HCL.out) (fun e => by have h2 : a0 = wo.heap.size := Option.some.inj e; omega)
              clear hown hown2 hgrow2 hcc0 HB
              go_wp2_with fail
              go_roundw
              case rel =>
                refine ⟨p + cS.size, t + 1, acc ++ [(ib : Int)], by omega, by omega, by go_num, rfl, ?_, HB5.out, Hbq2.out, ?_, ?_⟩
                · unfold Hid; rw [List.map_append]; exact Ho2.out
                · have := HNX.out
                  rw [HGD.out, List.drop_drop, ← HCZ.out] at this
                  exact Or.inr ⟨HF0.out, this⟩
                · have h1 := HR.out
                  rw [HST.out, HGD.out, List.drop_drop, ← HCZ.out] at h1
                  unfold Hid
                  rw [h1]; simp
              case measure => simp [intOf]; omega
          · obtain rfl : p = s.size := by omega
            have hrz : Bk.rd1 zss (zs.drop s.size) = [] := by rw [List.drop_of_length_le (by rw [HSL.out]; exact Nat.le_refl _)]; rfl
            have HOK : Hid (Bk.readOk zss zs = true) := by
              refine HRI.out.2 ?_
              rcases HN.out with h | h
              · have : zs = [] := List.eq_nil_of_length_eq_zero (by have := HSL.out; omega)
                rw [this, Bk.few1_nil]; simp
              · exact h.1
            have HEL : Hid (Bk.readL zss zs = acc) := by unfold Hid; rw [Bk.readL_yes HOK.out, HR.out, hrz, List.append_nil]
            clear hrz
            go_wp2_with fail
            go_ret2
            exact ⟨_, _, _, by rw [HOK.out]; rfl, by rw [HEL.out]; exact own_base Ho.out (Nat.le_trans Hb2.out.size Hb.out.size), HW0.out⟩
      · obtain ⟨p, rfl⟩ : ∃ p : Nat, a = p := ⟨a.toNat, by omega⟩
        have hpm : p < s.size := by omega
        have HO3 : Hid (Bests wr w2.heap.size s.size (p + 1) (Bk.bb zss zs)) := by
          have := Ho.out; rw [show ((p : Int) + 1).toNat = p + 1 by omega] at this; exact this
        obtain ⟨⟨u0, e0⟩, ⟨u1, e1⟩, f0, f1⟩ := HO3.out.1 p (by omega)
        clear Ho hneg ha0 ham
        go_wp2_with fail
        have HB4 : Hid (Bests ((wr.setCell ⟨w2.heap.size, p * 2, none⟩ (.int .i64 (-1))).setCell ⟨w2.heap.size, p * 2 + 1, none⟩ (.int .i64 0)) w2.heap.size s.size p (Bk.bF zss zs p 0)) := by
          refine (HO3.out.put (p := p) (by omega) (Nat.le_refl _) none).congr fun j _ _ => ?_
          unfold Bk.bF
          by_cases e : j = p
          · subst e; simp [Bk.bst]
          · simp [e]
        have Hb4 : Hid (Below w2.heap.size w2 ((wr.setCell ⟨w2.heap.size, p * 2, none⟩ (.int .i64 (-1))).setCell ⟨w2.heap.size, p * 2 + 1, none⟩ (.int .i64 0))) := (Hb.out.setCell (Nat.le_refl _) _).setCell (Nat.le_refl _) _
        generalize (wr.setCell ⟨w2.heap.size, p * 2, none⟩ (.int .i64 (-1))).setCell ⟨w2.heap.size, p * 2 + 1, none⟩ (.int .i64 0) = w4 at HB4 Hb4 ⊢
        clear HO3 Hb e0 e1 f0 f1
        obtain ⟨wo, rfl⟩ : ∃ wo : World, wo = wr := ⟨_, rfl⟩
        go_loopw [52] (fun i wq => ∃ q : Nat, q ≤ k ∧ i = .int .i64 q ∧ Hid (Bests wq w2.heap.size s.size p (Bk.bF zss zs p q)) ∧ Hid (Below w2.heap.size w2 wq)) (fun i _ => k - (intOf i).toNat)
        case atStart => exact ⟨0, Nat.zero_le _, rfl, HB4.out, Hb4.out⟩
        case round =>
          obtain ⟨q, hq, rfl, HB, Hb⟩ := hrel
          clear HB4 Hb4
          by_cases hqk : q < k
          · obtain ⟨cd, hc⟩ : ∃ c, zss[q]? = some c := ⟨_, List.getElem?_eq_getElem (by rw [← HK.out]; omega)⟩
            obtain ⟨a0, rfl, hcell0⟩ := (codes_at (own_belowAll HO2.out Hb.out) HV.out).2 q cd hc
            have HC := Lib.hid hc
            have hcv := Cd.valid_grp (Bk.valid_at HV.out hc).1
            obtain ⟨cS, hcS⟩ : ∃ cS, cS = bstr cd := ⟨_, rfl⟩
            have hcell : wr.cell? ⟨a0, q, none⟩ = some (.string cS) := by rw [hcS]; exact hcell0
            have hcz : cS.size = cd.length := by rw [hcS, bstr_size]
            have HPRE : Hid (Cd.pre cS (s.extract p s.size) = Bk.pre cd (zs.drop p)) := by unfold Hid; rw [hcS, HS.out, Bk.bstr_drop]; exact Bk.pre_bstr hcv.1 (Bk.grp_drop HG.out p)
            have HEX : Hid ((s.extract p s.size).size ≤ 20) := by unfold Hid; rw [HS.out, Bk.bstr_drop, bstr_size, List.length_drop]; have := HSL.out; omega
            have HCZ := Lib.hid hcz
            have hc15 : 1 ≤ cS.size ∧ cS.size ≤ 5 := by rw [hcz]; exact hcv.2
            obtain ⟨hc1, hc5⟩ := hc15
            have hps : p ≤ s.size := by omega
            clear hc hcv hcell0 hcS hcz
            go_wp2_with fail
            refine (stands_any _ _ _ (by have := HEX.out; omega)).mono ?_
            rintro e w1 ⟨rfl, rfl⟩
            rw [HPRE.out]
            cases hp : Bk.pre cd (zs.drop p) with
            | false =>
              have HT := Lib.hid (Bk.bst_off (g := Bk.few1 zss) HC.out hp)
              clear hp
              go_wp2_with fail
              go_roundw
              case rel => exact ⟨q + 1, by omega, by go_num, HB.out.congr (fun j _ _ => by unfold Bk.bF; rw [HT.out]), Hb.out⟩
              case measure => simp [intOf]; omega
            | true =>
              have hle := Bk.pre_len hp
              rw [List.length_drop, ← HSL.out, ← HCZ.out] at hle
              have HP := Lib.hid hp
              have hp2 : p + cS.size ≤ s.size := by omega
              obtain ⟨hcc0, hcc1⟩ := HB.out.2 (p + cS.size) (by omega) hp2
              have hbF : Bk.bF zss zs p q (p + cS.size) = Bk.bb zss zs (p + cS.size) := by unfold Bk.bF; rw [if_neg (by omega)]
              rw [hbF] at hcc0 hcc1
              have HFW : Hid (Bk.few1 zss ((zs.drop p).drop cd.length) = (Bk.bb zss zs (p + cS.size)).map Prod.snd) := by
                unfold Hid; rw [List.drop_drop, ← HCZ.out]; exact Bk.bb_few HF.out (by rw [← HSL.out]; exact hp2)
              clear hp hle hbF
              have v1 : IntKind.i64.wrap ((p : Int) + cS.size) = (p : Int) + cS.size := IntWalk.i64_in _ (by omega)
              have v3 : ((p : Int) + cS.size).toNat = p + cS.size := by omega
              have j4 : (p : Int) + cS.size < (s.size : Int) + 1 := by omega
              have j5 : (0 : Int) ≤ (p : Int) + cS.size := by omega
              cases hbb : Bk.bb zss zs (p + cS.size) with
              | none =>
                have hlt : p + cS.size < s.size := by
                  rcases Nat.lt_or_ge (p + cS.size) zs.length with h | h
                  · have := HSL.out; omega
                  · unfold Bk.bb at hbb; rw [if_neg (by omega)] at hbb; cases hbb
                rw [hbb] at hcc0 hcc1 HFW
                have HT := Lib.hid (Bk.bst_none HC.out HP.out HFW.out)
                clear hbb
                change wr.cell? ⟨w2.heap.size, (p + cS.size) * 2, none⟩ = some (.int .i64 (-1)) at hcc0
                change wr.cell? ⟨w2.heap.size, (p + cS.size) * 2 + 1, none⟩ = some (.int .i64 0) at hcc1
                go_wp2_with fail
                go_roundw
                case rel => exact ⟨q + 1, by omega, by go_num, (HB.out.congr (fun j _ _ => by unfold Bk.bF; rw [HT.out])).below ((Below.refl _ _).alloc (Nat.le_refl _) _), Hb.out.alloc Hb.out.size _⟩
                case measure => simp [intOf]; omega
              | some o =>
                obtain ⟨i2, m2⟩ := o
                rw [hbb] at hcc0 hcc1 HFW
                clear hbb
                change wr.cell? ⟨w2.heap.size, (p + cS.size) * 2, none⟩ = some (.int .i64 (i2 : Nat)) at hcc0
                change wr.cell? ⟨w2.heap.size, (p + cS.size) * 2 + 1, none⟩ = some (.int .i64 (m2 : Nat)) at hcc1
                have hm2 : m2 ≤ 20 := by
                  have h1 := Bk.few1_le HF.out _ _ _ (Nat.le_refl _) HFW.out
                  rw [List.length_drop, List.length_drop] at h1
                  have := HSL.out
                  omega
                have hd2 : decide ((i2 : Int) < 0) = false := decide_eq_false (by omega)
                go_upto_region 16 with fail
                have hltw : w2.heap.size < wr.heap.size := block_lt_of_cell hcc0
                have HB5 : Hid (Bests (wr.alloc (.cells #[.int .i64 i2, .int .i64 m2] 75)) w2.heap.size s.size p (Bk.bF zss zs p q)) := HB.out.below ((Below.refl _ _).alloc (Nat.le_refl _) _)
                have Hb5 : Hid (Below w2.heap.size w2 (wr.alloc (.cells #[.int .i64 i2, .int .i64 m2] 75))) := Hb.out.alloc Hb.out.size _
                have HR5 := Lib.hid (room2_new wr (.int .i64 i2) (.int .i64 m2) 75)
                generalize wr.alloc (.cells #[.int .i64 i2, .int .i64 m2] 75) = w5 at HB5 Hb5 HR5 ⊢
                obtain ⟨r0, r1, _, _⟩ := HR5.out
                obtain ⟨⟨u0, e0⟩, ⟨u1, e1⟩, f0, f1⟩ := HB5.out.1 p hps
                obtain ⟨g0, g1⟩ := HB5.out.2 p (Nat.le_refl _) hps
                have hbFp : Bk.bF zss zs p q p = Bk.bst zss (zs.drop p) (Bk.few1 zss) q := by unfold Bk.bF; rw [if_pos rfl]
                rw [hbFp] at g0 g1
                clear hcc0 hcc1 HB Hb HR5 hbFp e0 e1
                cases hbs : Bk.bst zss (zs.drop p) (Bk.few1 zss) q with
                | none =>
                  have HT := Lib.hid (Bk.bst_first HC.out HP.out HFW.out hbs)
                  rw [hbs] at g0 g1
                  change w5.cell? ⟨w2.heap.size, p * 2, none⟩ = some (.int .i64 (-1)) at g0
                  change w5.cell? ⟨w2.heap.size, p * 2 + 1, none⟩ = some (.int .i64 0) at g1
                  clear hbs
                  go_quiet (fail)
                  go_wp2_with fail
                  go_roundw
                  case rel => 
                    refine ⟨q + 1, by omega, by go_num, ?_, ?_⟩
                    · refine ((HB5.out.drewN _).put (p := p) hps (by omega) (some (q, m2 + 1))).congr fun j _ _ => ?_
                      unfold Bk.bF
                      by_cases e : j = p
                      · rw [if_pos e, if_pos e, HT.out]
                      · rw [if_neg e, if_neg e, if_neg e]
                    · exact ((below_drewN Hb5.out _).setCell (Nat.le_refl _) _).setCell (Nat.le_refl _) _
                  case measure => simp [intOf]; omega
                | some o =>
                  obtain ⟨ib, qb⟩ := o
                  rw [hbs] at g0 g1
                  change w5.cell? ⟨w2.heap.size, p * 2, none⟩ = some (.int .i64 (ib : Nat)) at g0
                  change w5.cell? ⟨w2.heap.size, p * 2 + 1, none⟩ = some (.int .i64 (qb : Nat)) at g1
                  have hd3 : decide ((ib : Int) < 0) = false := decide_eq_false (by omega)
                  by_cases hlt : m2 + 1 < qb
                  · have HT := Lib.hid (Bk.bst_less HC.out HP.out HFW.out hbs hlt)
                    have hd4 : decide ((m2 : Int) + 1 < (qb : Int)) = true := decide_eq_true (by omega)
                    clear hbs
                    go_quiet (fail)
                    go_wp2_with fail
                    go_roundw
                    case rel => 
                      refine ⟨q + 1, by omega, by go_num, ?_, ?_⟩
                      · refine ((HB5.out.drewN _).put (p := p) hps (by omega) (some (q, m2 + 1))).congr fun j _ _ => ?_
                        unfold Bk.bF
                        by_cases e : j = p
                        · rw [if_pos e, if_pos e, HT.out]
                        · rw [if_neg e, if_neg e, if_neg e]
                      · exact ((below_drewN Hb5.out _).setCell (Nat.le_refl _) _).setCell (Nat.le_refl _) _
                    case measure => simp [intOf]; omega
                  · have HT := Lib.hid (Bk.bst_keep HC.out HP.out HFW.out hbs hlt)
                    have hd4 : decide ((m2 : Int) + 1 < (qb : Int)) = false := decide_eq_false (by omega)
                    have HBS := Lib.hid hbs
                    clear hbs
                    go_quiet (fail)
                    go_wp2_with fail
                    go_roundw
                    case rel => 
                      refine ⟨q + 1, by omega, by go_num, ?_, below_drewN Hb5.out _⟩
                      refine (HB5.out.drewN _).congr fun j _ _ => ?_
                      unfold Bk.bF
                      rw [HT.out, HBS.out]
                    case measure => simp [intOf]; omega
          · have hqk : q = k := by omega
            subst hqk
            have HN : Hid (Bests wr w2.heap.size s.size p (Bk.bb zss zs)) := HB.out.congr fun j hj hj2 => by
              unfold Bk.bF
              by_cases e : j = p
              · subst e
                rw [if_pos rfl]
                unfold Bk.bb Bk.best1
                rw [if_pos (by have := HSL.out; omega), HK.out]
              · rw [if_neg e]
            go_wp2_with fail
            go_roundw
            case rel => exact ⟨(p : Int) - 1, by omega, by omega, by go_num, by rw [show ((p : Int) - 1 + 1).toNat = p by omega]; exact HN.out, Hb.out⟩
            case measure => simp [intOf]
  · have HE : Hid (Bk.readOk zss zs = false) := Bk.readOk_bad hok
    have HEL : Hid (Bk.readL zss zs = []) := Bk.readL_bad HE.out
    by_cases h20 : m ≤ 20
    · go_enter Try.func44, Try.ntmps44
      go_wp2_with fail
      refine (bookOf_any _ _ _ zss _ HX.out hn ht).mono ?_
      rintro e w1 ⟨G, k, g, rfl, ho1, hb1⟩
      have Hb1 := Lib.hid hb1
      clear ho1 hb1 hn
      go_wp2_with fail
      refine (beatsOf_any _ _ _ zs _ _ (RdI.below HY.out Hb1.out) (by omega) (by omega)).mono ?_
      rintro e w2 ⟨rfl, hb2⟩
      have Hb2 := Lib.hid (below_seq Hb1.out hb2)
      clear hb2
      cases hz : zs.all Cd.inB with
      | false =>
        rw [Cd.groupsV_no hz]
        clear hz
        cases hv : Bk.valid zss with
        | false =>
          clear hv hok
          go_wp2_with fail
          go_ret2
          exact ⟨_, _, _, by rw [HE.out]; rfl, by rw [HEL.out]; exact own_base (own_lit0 w2 _) Hb2.out.size, Hb2.out.alloc Hb2.out.size _⟩
        | true =>
          clear hv hok
          go_wp2_with fail
          go_ret2
          exact ⟨_, _, _, by rw [HE.out]; rfl, by rw [HEL.out]; exact own_base (own_lit0 w2 _) Hb2.out.size, Hb2.out.alloc Hb2.out.size _⟩
      | true =>
        have HRG : Bk.ring zs = true := by unfold Bk.ring; rw [hz, decide_eq_true (by rw [Hly.out]; exact h20)]; rfl
        rw [Cd.groupsV_yes hz]
        clear hz
        cases hv : Bk.valid zss with
        | false =>
          clear hv hok HRG
          go_wp2_with fail
          go_ret2
          exact ⟨_, _, _, by rw [HE.out]; rfl, by rw [HEL.out]; exact own_base (own_lit0 w2 _) Hb2.out.size, Hb2.out.alloc Hb2.out.size _⟩
        | true => exact absurd ⟨hv, HRG⟩ hok
    · clear hok
      go_enter Try.func44, Try.ntmps44
      go_wp2_with fail
      refine (bookOf_any _ _ _ zss _ HX.out hn ht).mono ?_
      rintro e w1 ⟨G, k, g, rfl, ho1, hb1⟩
      have Hb1 := Lib.hid hb1
      clear ho1 hb1 hn
      go_wp2_with fail
      refine (beatsOf_long _ _ _ _ _ (by omega)).mono ?_
      rintro e w2 ⟨rfl, rfl⟩
      cases hv : Bk.valid zss with
      | false =>
        clear hv
        go_wp2_with fail
        go_ret2
        exact ⟨_, _, _, by rw [HE.out]; rfl, by rw [HEL.out]; exact own_base (own_lit0 w1 _) Hb1.out.size, Hb1.out.alloc Hb1.out.size _⟩
      | true =>
        clear hv
        go_wp2_with fail
        go_ret2
        exact ⟨_, _, _, by rw [HE.out]; rfl, by rw [HEL.out]; exact own_base (own_lit0 w1 _) Hb1.out.size, Hb1.out.alloc Hb1.out.size _⟩
end Go.Proofs.Ytpfgjkgjeejghaa
