/-
  Contracts of PathClash (the program's and the reference's): the sections in which two paths clash, in a list of the call's own.
  Conditions: the fields read as lists of integers.
-/
import Derived.Test.YtpfgjkgjeejghaaPath5
namespace Go.Proofs.Ytpfgjkgjeejghaa
open Go.RowKit
set_option linter.unusedVariables false
attribute [local go_sem ↓] Go.wp_at_zero Go.wp_at_succ

theorem own_lit00 (w : World) (e : TypeId) : (w.alloc (.cells #[] e)).ownsRow w.heap.size e 1 (.slice (some ⟨w.heap.size, 0, none⟩) 0 0) 0 [] :=
  World.ownsRow_lit w #[] 0 (Nat.le_refl _) (Nat.zero_le _) rfl
theorem Pt.clashes_yes {xs ys xs' ys' : List Int} {k : Nat} (h : cl xs ys xs' ys' k = true) : Pt.clashes xs ys xs' ys' (k + 1) = Pt.clashes xs ys xs' ys' k ++ [(k : Int)] := by
  simp only [Pt.clashes]; rw [if_pos (of_decide_eq_true h)]
theorem Pt.clashes_no {xs ys xs' ys' : List Int} {k : Nat} (h : cl xs ys xs' ys' k = false) : Pt.clashes xs ys xs' ys' (k + 1) = Pt.clashes xs ys xs' ys' k := by
  simp only [Pt.clashes]; rw [if_neg (of_decide_eq_false h)]
theorem Room2.grown {w w' : World} {b : Nat} {v0 v1 : Value} {row : Option Nat} (h : Room2 w b v0 v1) (hg : w.grownBy w' row) (hr : ∀ r, row = some r → b ≠ r) : Room2 w' b v0 v1 := by
  have hb : w'.heap[b]? = w.heap[b]? := hg.block b h.lt (fun e => hr b e.symm rfl)
  obtain ⟨h0, h1, f0, f1⟩ := h
  exact ⟨(World.cell?_of_block (a := ⟨b, 0, none⟩) hb).trans h0, (World.cell?_of_block (a := ⟨b, 1, none⟩) hb).trans h1, (World.frozen?_of_block (a := ⟨b, 0, none⟩) hb).trans f0, (World.frozen?_of_block (a := ⟨b, 1, none⟩) hb).trans f1⟩

set_option maxHeartbeats 8000000 in
theorem implPathClash_any (A : Option Addr) (n c : Nat) (B : Option Addr) (m d : Nat) (xs ys : List Int) (A' : Option Addr) (n' c' : Nat) (B' : Option Addr) (m' d' : Nat) (xs' ys' : List Int) (N : Int) (w : World)
    (hx : RdI w A n xs) (hy : RdI w B m ys) (hx' : RdI w A' n' xs') (hy' : RdI w B' m' ys') :
    Calls Try.prog 23 #[.int .i64 N, pv A n c B m d, pv A' n' c' B' m' d'] w fun e w' => ∃ G k g, e = .returned (.slice G k g) ∧ w'.ownsRow w.heap.size 3 1 (.slice G k g) k ((Pt.clash N xs ys xs' ys').map (Value.int .i64)) ∧ Below w.heap.size w w' := by
  have HB0 : Hid (Below w.heap.size w ((w.alloc (.cells #[.slice A n c, .slice B m d] 28)).alloc (.cells #[.slice A' n' c', .slice B' m' d'] 28))) :=
    ((Below.refl w.heap.size w).alloc (Nat.le_refl _) _).alloc (by simp) _
  have HR0 : Hid (Room2 ((w.alloc (.cells #[.slice A n c, .slice B m d] 28)).alloc (.cells #[.slice A' n' c', .slice B' m' d'] 28)) w.heap.size (.slice A n c) (.slice B m d)) := (room2_new _ _ _ _).alloc _
  have HQ0 : Hid (Room2 ((w.alloc (.cells #[.slice A n c, .slice B m d] 28)).alloc (.cells #[.slice A' n' c', .slice B' m' d'] 28)) (w.heap.size + 1) (.slice A' n' c') (.slice B' m' d')) := by
    have := room2_new (w.alloc (.cells #[.slice A n c, .slice B m d] 28)) (.slice A' n' c') (.slice B' m' d') 28; unfold Hid; simpa using this
  have HX := Lib.hid hx
  have HY := Lib.hid hy
  have HX' := Lib.hid hx'
  have HY' := Lib.hid hy'
  have Hl := Lib.hid (And.intro hx.len (And.intro hy.len (And.intro hx'.len hy'.len)))
  clear hx hy hx' hy'
  obtain ⟨va, hva⟩ : ∃ va, Pt.valid N xs ys = va := ⟨_, rfl⟩
  obtain ⟨vb, hvb⟩ : ∃ vb, Pt.valid N xs' ys' = vb := ⟨_, rfl⟩
  have HVA := Lib.hid hva
  have HVB := Lib.hid hvb
  cases va with
  | false =>
    have HE : Hid (Pt.clash N xs ys xs' ys' = []) := by unfold Hid Pt.clash; rw [if_neg (by rw [hva]; simp)]
    clear hva hvb
    go_enter Try.func23, Try.ntmps23
    go_wp2_with fail
    refine (implValid_below _ _ _ _ _ _ _ xs ys _ _ HR0.out.1 HR0.out.2.1 (RdI.below HX.out HB0.out) (RdI.below HY.out HB0.out)).mono ?_
    rintro e w1 ⟨rfl, hb1⟩
    rw [HVA.out]
    have Hb1 := Lib.hid (below_seq HB0.out hb1)
    clear hb1
    go_wp2_with fail
    go_ret
    exact ⟨_, _, _, rfl, by rw [HE.out]; exact own_base (own_lit00 w1 _) Hb1.out.size, Hb1.out.alloc Hb1.out.size _⟩
  | true =>
    cases vb with
    | false =>
      have HE : Hid (Pt.clash N xs ys xs' ys' = []) := by unfold Hid Pt.clash; rw [if_neg (by rw [hvb]; simp)]
      clear hva hvb
      go_enter Try.func23, Try.ntmps23
      go_wp2_with fail
      refine (implValid_below _ _ _ _ _ _ _ xs ys _ _ HR0.out.1 HR0.out.2.1 (RdI.below HX.out HB0.out) (RdI.below HY.out HB0.out)).mono ?_
      rintro e w1 ⟨rfl, hb1⟩
      rw [HVA.out]
      have Hb1 := Lib.hid (below_seq HB0.out hb1)
      have HQ1 := Lib.hid (HQ0.out.later hb1)
      clear hb1
      go_wp2_with fail
      refine (implValid_below _ _ _ _ _ _ _ xs' ys' _ _ HQ1.out.1 HQ1.out.2.1 (RdI.below HX'.out Hb1.out) (RdI.below HY'.out Hb1.out)).mono ?_
      rintro e w2 ⟨rfl, hb2⟩
      rw [HVB.out]
      have Hb2 := Lib.hid (below_seq Hb1.out hb2)
      clear hb2
      go_wp2_with fail
      go_ret
      exact ⟨_, _, _, rfl, by rw [HE.out]; exact own_base (own_lit00 w2 _) Hb2.out.size, Hb2.out.alloc Hb2.out.size _⟩
    | true =>
      obtain ⟨q, rfl, hq1, hq5, hlx, hly, _⟩ := Pt.valid_parts hva
      obtain ⟨q', hqq, _, _, hlx', hly', _⟩ := Pt.valid_parts hvb
      obtain rfl : q = q' := by omega
      obtain ⟨k1, k2, k3, k4⟩ := Hl.out
      obtain rfl : n = q := by omega
      obtain rfl : m = n := by omega
      obtain rfl : n' = m := by omega
      obtain rfl : m' = n' := by omega
      have HE : Hid (Pt.clash (m' : Int) xs ys xs' ys' = Pt.clashes xs ys xs' ys' m') := by unfold Hid Pt.clash; rw [if_pos ⟨hva, hvb⟩]; rfl
      clear hva hvb k1 k2 k3 k4 hlx hly hlx' hly' hqq
      obtain ⟨i0, hi, hz0, hz1, hz2⟩ := info_parts Try.infoInt
      go_enter Try.func23, Try.ntmps23
      go_wp2_with fail
      refine (implValid_below _ _ _ _ _ _ _ xs ys _ _ HR0.out.1 HR0.out.2.1 (RdI.below HX.out HB0.out) (RdI.below HY.out HB0.out)).mono ?_
      rintro e w1 ⟨rfl, hb1⟩
      rw [HVA.out]
      have Hb1 := Lib.hid (below_seq HB0.out hb1)
      have HR1 := Lib.hid (HR0.out.later hb1)
      have HQ1 := Lib.hid (HQ0.out.later hb1)
      clear hb1
      go_wp2_with fail
      refine (implValid_below _ _ _ _ _ _ _ xs' ys' _ _ HQ1.out.1 HQ1.out.2.1 (RdI.below HX'.out Hb1.out) (RdI.below HY'.out Hb1.out)).mono ?_
      rintro e w2 ⟨rfl, hb2⟩
      rw [HVB.out]
      have Hb2 := Lib.hid (below_seq Hb1.out hb2)
      have HR2 := Lib.hid (HR1.out.later hb2)
      have HQ2 := Lib.hid (HQ1.out.later hb2)
      have hlt2 : w.heap.size + 1 < w2.heap.size := HQ2.out.lt
      clear hb2
      go_wp2_with (at_make; refine wpList_make_own _ rfl _ _ 23 rfl (w.heap.size + 1 + 1) 3 i0 (.int .i64 0) 1 Try.underlying23 hi hz0 hz1 _ _ _ m' rfl rfl rfl ?b2 ?b3 ?b4 ?_)
      case b2 => rw [hz2]; omega
      case b3 => unfold maxLen; omega
      case b4 => omega
      intro w3 hown hgrow
      have HO3 := Lib.hid hown
      have HB3 : Hid (Below w.heap.size w w3) := below_grown Hb2.out hgrow (by omega) (fun k h => by cases h)
      have HR3 : Hid (Room2 w3 w.heap.size (.slice A m' c) (.slice B m' d)) := HR2.out.grown hgrow (fun k h => by cases h)
      have HQ3 : Hid (Room2 w3 (w.heap.size + 1) (.slice A' m' c') (.slice B' m' d')) := HQ2.out.grown hgrow (fun k h => by cases h)
      clear hown hgrow hlt2
      go_wp2_with fail
      go_loopw [7, 21] (fun v i wr => ∃ (k : Nat), k ≤ m' ∧ i = .int .i64 k ∧ Hid (wr.ownsRow (w.heap.size + 1 + 1) 3 1 v (Pt.clashes xs ys xs' ys' k).length ((Pt.clashes xs ys xs' ys' k).map (Value.int .i64))) ∧ Hid (Below w.heap.size w wr) ∧ Hid (Room2 wr w.heap.size (.slice A m' c) (.slice B m' d)) ∧ Hid (Room2 wr (w.heap.size + 1) (.slice A' m' c') (.slice B' m' d'))) (fun _ i _ => m' - (intOf i).toNat)
      case atStart => exact ⟨0, Nat.zero_le _, rfl, HO3.out, HB3.out, HR3.out, HQ3.out⟩
      case round =>
        obtain ⟨k, hk, rfl, Ho, Hb, Hr, Hq⟩ := hrel
        obtain ⟨A2, c2, rfl, hfc⟩ := own_form Ho.out
        clear hfc
        by_cases hlt : k < m'
        · have hlen := Pt.clashes_len xs ys xs' ys' k
          cases hcl : cl xs ys xs' ys' k with
          | false =>
            have HCL := Lib.hid hcl
            clear hcl hlen
            go_wp2_with fail
            refine (implClashes_any _ _ _ _ _ xs ys _ _ _ _ _ xs' ys' m' k _ Hr.out.1 Hr.out.2.1 Hq.out.1 Hq.out.2.1 (RdI.below HX.out Hb.out) (RdI.below HY.out Hb.out) (RdI.below HX'.out Hb.out) (RdI.below HY'.out Hb.out) hlt).mono ?_
            rintro e w5 ⟨rfl, hb5⟩
            rw [HCL.out]
            have Ho5 := Lib.hid (own_belowAll Ho.out hb5)
            have Hb5 := Lib.hid (below_seq Hb.out hb5)
            have Hr5 := Lib.hid (Hr.out.later hb5)
            have Hq5 := Lib.hid (Hq.out.later hb5)
            clear hb5
            go_wp2_with fail
            go_roundw
            case rel => exact ⟨k + 1, by omega, by go_num, by unfold Hid; rw [Pt.clashes_no HCL.out]; exact Ho5.out, Hb5.out, Hr5.out, Hq5.out⟩
            case measure => simp [intOf]; omega
          | true =>
            have HCL := Lib.hid hcl
            clear hcl
            go_wp2_with fail
            refine (implClashes_any _ _ _ _ _ xs ys _ _ _ _ _ xs' ys' m' k _ Hr.out.1 Hr.out.2.1 Hq.out.1 Hq.out.2.1 (RdI.below HX.out Hb.out) (RdI.below HY.out Hb.out) (RdI.below HX'.out Hb.out) (RdI.below HY'.out Hb.out) hlt).mono ?_
            rintro e w5 ⟨rfl, hb5⟩
            rw [HCL.out]
            have Ho5 := Lib.hid (own_belowAll Ho.out hb5)
            have Hb5 := Lib.hid (below_seq Hb.out hb5)
            have Hr5 := Lib.hid (Hr.out.later hb5)
            have Hq5 := Lib.hid (Hq.out.later hb5)
            have hlt5 : w.heap.size + 1 < w5.heap.size := Hq5.out.lt
            clear hb5
            have hown := Ho5.out
            go_wp2_with (at_builtin; refine wpList_append_own _ rfl _ _ 23 rfl (w.heap.size + 1 + 1) 3 i0 (.int .i64 0) 1 8 Try.underlying23 hi hz0 hz1 hz2 rfl (by decide) _ _ _ rfl (hown.alloc _) ⟨w5.heap.size, 0, none⟩ 1 1 [.int .i64 k] rfl rfl (cell_new _ _ _) (one_cell _ rfl) ?c3 ?c4 ?c5 ?_)
            case c3 => unfold maxLen; omega
            case c4 => omega
            case c5 => simp; omega
            intro v2 w6 hown2 hgrow2 _
            have Ho6 := Lib.hid hown2
            have Hge : ∀ g, (Value.slice A2 (Pt.clashes xs ys xs' ys' k).length c2).ownBlock = some g → w.heap.size + 1 + 1 ≤ g := fun g h => (Ho5.out.lt g h).1
            have Hb6 := Lib.hid (below_grown (Hb5.out.alloc Hb5.out.size (.cells #[.int .i64 k] 3)) hgrow2 (by simp; omega) (fun g h => by have := Hge g h; omega))
            have Hr6 := Lib.hid ((Hr5.out.alloc (.cells #[.int .i64 k] 3)).grown hgrow2 (fun g h => by have := Hge g h; omega))
            have Hq6 := Lib.hid ((Hq5.out.alloc (.cells #[.int .i64 k] 3)).grown hgrow2 (fun g h => by have := Hge g h; omega))
            clear hown hown2 hgrow2
            go_wp2_with fail
            go_roundw
            case rel => exact ⟨k + 1, by omega, by go_num, by unfold Hid; rw [Pt.clashes_yes HCL.out, List.map_append, List.length_append]; exact Ho6.out, Hb6.out, Hr6.out, Hq6.out⟩
            case measure => simp [intOf]; omega
        · have hkn : k = m' := by omega
          subst hkn
          go_wp2_with fail
          go_ret
          exact ⟨_, _, _, rfl, by rw [HE.out]; exact own_base Ho.out (by omega), Hb.out⟩
end Go.Proofs.Ytpfgjkgjeejghaa
