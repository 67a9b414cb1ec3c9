/-
  Contracts: BookRing (the reference's) as far as the draws need it; l91At, l91List.
  Conditions: where said.
-/
import Derived.Test.YtpfgjkgjeejghaaDrawBook2
namespace Go.Proofs.Ytpfgjkgjeejghaa
open Go.RowKit
set_option linter.unusedVariables false
attribute [local go_sem ↓] Go.wp_at_zero Go.wp_at_succ

set_option maxHeartbeats 4000000 in
theorem specBookRing_any (A : Option Addr) (n c : Nat) (zss : List (List Int)) (A' : Option Addr) (m d : Nat) (zs : List Int) (w : World) (hx : RdM w A n zss) (hn : n ≤ 1048576) (ht : tot zss ≤ 1048576) (hy : RdI w A' m zs) (hm : m ≤ 1048576) :
    Calls Try.prog 74 #[.slice A n c, .slice A' m d] w fun e w' => ∃ (G : Option Addr) (k g : Nat) (us : List Int) (ok : Bool), e = .returned (.tuple #[.slice G k g, .bool ok]) ∧ w'.ownsRow w.heap.size 3 1 (.slice G k g) k (us.map (Value.int .i64)) ∧ k ≤ 20 ∧ Below w.heap.size w w' := by
  have HX := Lib.hid hx
  have HY := Lib.hid hy
  have Hl := Lib.hid hx.len
  clear hx hy
  obtain ⟨i0, hi, hz0, hz1, hz2⟩ := info_parts Try.infoInt
  go_enter Try.func74, Try.ntmps74
  go_wp2_with fail
  refine (specBookValid_any _ _ _ zss _ (RdM.below HX.out ((Below.refl _ _).alloc (Nat.le_refl _) _)) hn ht).mono ?_
  rintro e w1 ⟨rfl, m1, rfl⟩
  have HO1 : Hid (((w.alloc (.cells #[] 3)).drewN m1).ownsRow w.heap.size 3 1 (.slice (some ⟨w.heap.size, 0, none⟩) 0 0) 0 (([] : List Int).map (Value.int .i64))) := own_drewN (own_lit0 w _) m1
  have Hb1 : Hid (Below w.heap.size w ((w.alloc (.cells #[] 3)).drewN m1)) := below_drewN ((Below.refl _ _).alloc (Nat.le_refl _) _) m1
  generalize (w.alloc (.cells #[] 3)).drewN m1 = w1 at HO1 Hb1 ⊢
  cases hv : Bk.valid zss with
  | false =>
    clear hv
    go_wp2_with fail
    go_ret2
    exact ⟨_, 0, _, [], _, rfl, HO1.out, by omega, Hb1.out⟩
  | true =>
    have HV := Lib.hid hv
    clear hv
    go_wp2_with fail
    go_loopw [6, 7] (fun v i wr => ∃ (q k : Nat) (us : List Int), q ≤ m ∧ k ≤ 20 ∧ i = .int .i64 q ∧ Hid (wr.ownsRow w.heap.size 3 1 v k (us.map (Value.int .i64))) ∧ Hid (Below w.heap.size w wr)) (fun _ i _ => m - (intOf i).toNat)
    case atStart => exact ⟨0, 0, [], Nat.zero_le _, Nat.zero_le _, rfl, HO1.out, Hb1.out⟩
    case round =>
      obtain ⟨q, k, us, hq, hk, rfl, Ho, Hb⟩ := hrel
      clear HO1 Hb1
      obtain ⟨A2, c2, rfl, hfc⟩ := own_form Ho.out
      clear hfc
      have hsz : w.heap.size ≤ wr.heap.size := Hb.out.size
      by_cases hlt : q < m
      · obtain ⟨b, off, x, rfl, hxq, hcx0⟩ := HY.out.at_ hlt
        have hcx : wr.cell? ⟨b, off + q, none⟩ = some (.int .i64 x) := (Hb.out.cell (block_lt_of_cell hcx0)).trans hcx0
        have v1 : IntKind.i64.wrap ((n : Int) - 1) = (n : Int) - 1 := IntWalk.i64_in _ (by omega)
        clear hxq hcx0
        by_cases hin : 0 ≤ x ∧ x ≤ (n : Int) - 1
        · obtain ⟨h0, h1⟩ := hin
          obtain ⟨xn, rfl⟩ := Int.eq_ofNat_of_zero_le h0
          have hxn : xn < n := by omega
          obtain ⟨b2, off2, A1, n1, c1, cs, rfl, hck, hcz, hrd, _, _⟩ := (RdM.below HX.out Hb.out).at_ hxn
          have hcv := Cd.valid_grp (Bk.valid_at HV.out hck).1
          have hl1 : n1 = cs.length := hrd.len.symm
          have hn15 : 1 ≤ n1 ∧ n1 ≤ 5 := by omega
          obtain ⟨hn11, hn15⟩ := hn15
          obtain ⟨b3, off3, eA, hcs⟩ := hrd.2 (by omega)
          subst eA
          have HCS : Hid (∀ j u, (cs.map (Value.int .i64))[j]? = some u → wr.cell? ((⟨b3, off3, none⟩ : Addr).add j) = some u) := fun j u hj => by rw [Addr.add_lit]; exact hcs j u hj
          have HL1 := Lib.hid hl1
          have j3 : (xn : Int) < n := by omega
          clear hck hcv hl1 hrd hcs
          go_wp2_with fail
          refine (l6In_yes _ _ _ _ (by omega) (by omega)).mono ?_
          rintro e w2 ⟨rfl, rfl⟩
          have hown := Ho.out
          go_wp2_with (at_builtin; refine wpList_append_own _ rfl _ _ 23 rfl w.heap.size 3 i0 (.int .i64 0) 1 8 Try.underlying23 hi hz0 hz1 hz2 rfl (by decide) _ _ _ rfl hown ⟨b3, off3, none⟩ n1 c1 (cs.map (Value.int .i64)) rfl ?c2 HCS.out ?c1 ?c3 ?c4 ?c5 ?_)
          case c2 => have := HL1.out; simp; omega
          case c1 => intro u hu; obtain ⟨z, _, rfl⟩ := List.mem_map.1 hu; rfl
          case c3 => unfold maxLen; omega
          case c4 => omega
          case c5 => exact hsz
          intro v3 w3 hown3 hgrow3 _
          have Ho3 := Lib.hid hown3
          have Hb3 := Lib.hid (Hb.out.grown hgrow3 hsz (fun g h => ((Ho.out).lt g h).1))
          obtain ⟨A3, c3, rfl, hfc⟩ := own_form hown3
          clear hown hown3 hgrow3 hfc
          by_cases h20 : (20 : Int) < (k : Int) + n1
          · go_wp2_with fail
            go_ret2
            exact ⟨_, 0, _, [], _, rfl, own_base (own_lit0 w3 _) Hb3.out.size, by omega, Hb3.out.alloc Hb3.out.size _⟩
          · have hd20 : decide ((20 : Int) < (k : Int) + n1) = false := decide_eq_false h20
            go_wp2_with fail
            go_roundw
            case rel => exact ⟨q + 1, k + n1, us ++ cs, by omega, by omega, by go_num, by unfold Hid; rw [List.map_append]; exact Ho3.out, Hb3.out⟩
            case measure => simp [intOf]; omega
        · have hout : x < 0 ∨ (n : Int) - 1 < x := by omega
          clear hin
          go_wp2_with fail
          refine (l6In_no _ _ _ _ hout).mono ?_
          rintro e w2 ⟨rfl, rfl⟩
          go_wp2_with fail
          go_ret2
          exact ⟨_, 0, _, [], _, rfl, own_base (own_lit0 wr _) hsz, by omega, Hb.out.alloc hsz _⟩
      · go_wp2_with fail
        go_ret2
        exact ⟨_, k, _, us, _, rfl, Ho.out, hk, Hb.out⟩
/-- A number that was drawn. -/
def DrewN1 (L g p K : Nat) (w : World) (e : Ending) (w' : World) : Prop :=
  ∃ x p', e = .returned (.int .i64 x) ∧ p' ≤ p + K ∧ Src w' L g p' ∧ w.grownBy w' (some g)
set_option maxHeartbeats 2000000 in
theorem l91At_any (L g p n : Nat) (w : World) (hs : Src w L g p) (hp : p ≤ 900000) (hn : n ≤ 100) :
    Calls Try.prog 77 #[.pointer (some ⟨g, 0, none⟩), .int .i64 n] w (DrewN1 L g p 2 w) := by
  have HS := Lib.hid hs
  have hgL : g < w.heap.size := by have := hs.lt; omega
  clear hs
  have hlit : ∀ (W w3 : World) (un : Nat), un < 2 → g < W.heap.size → (W.alloc (.cells #[.int .i64 (-1), .int .i64 n] 3)).grownBy w3 (some g) → ∃ z : Int, w3.cell? ⟨W.heap.size, un, none⟩ = some (.int .i64 z) := by
    intro W w3 un hun hg hg3
    have h1 := hg3.block W.heap.size (by simp) (fun e => by injection e with e; omega)
    have : un = 0 ∨ un = 1 := by omega
    rcases this with rfl | rfl
    · exact ⟨-1, by rw [cell_of_row w3 W.heap.size 0 _ _ _ (h1.trans (heap_alloc_new W _))]; rfl⟩
    · exact ⟨n, by rw [cell_of_row w3 W.heap.size 1 _ _ _ (h1.trans (heap_alloc_new W _))]; rfl⟩
  have HLIT := Lib.hid hlit
  clear hlit
  by_cases h0 : n = 0
  · subst h0
    go_enter Try.func77, Try.ntmps77
    go_wp2_with fail
    refine (pick_any L g p _ _ (HS.out.alloc _) (by omega) (by omega)).mono ?_
    rintro e w3 ⟨u, rfl, hu, _, hs3, hg3⟩
    obtain ⟨hu0, hu2⟩ := hu (by omega)
    obtain ⟨un, rfl⟩ := Int.eq_ofNat_of_zero_le hu0
    obtain ⟨z, hcz⟩ := HLIT.out w w3 un (by omega) hgL hg3
    have Hs3 := Lib.hid hs3
    have Hg3 := Lib.hid (grown_trans (grown_alloc (grown_refl w (some g)) _) hg3)
    clear hs3 hg3 hu
    go_wp2_with fail
    go_ret
    exact ⟨z, p + 1, rfl, by omega, Hs3.out, Hg3.out⟩
  · have hn0 : ((n : Int) == 0) = false := by rw [beq_eq_false_iff_ne]; omega
    have hn1 : (1 : Int) ≤ n := by omega
    clear h0
    go_enter Try.func77, Try.ntmps77
    go_wp2_with fail
    refine (pick_any L g p _ _ HS.out (by omega) (by omega)).mono ?_
    rintro e w1 ⟨y, rfl, hy, _, hs1, hg1⟩
    obtain ⟨hy0, hy20⟩ := hy (by omega)
    have Hs1 := Lib.hid hs1
    have Hg1 := Lib.hid hg1
    have hgL1 : g < w1.heap.size := by have := hs1.lt; omega
    clear hs1 hg1 hy
    by_cases hy1 : y = 0
    · subst hy1
      go_wp2_with fail
      refine (pick_any L g (p + 1) _ _ (Hs1.out.alloc _) (by omega) (by omega)).mono ?_
      rintro e w3 ⟨u, rfl, hu, _, hs3, hg3⟩
      obtain ⟨hu0, hu2⟩ := hu (by omega)
      obtain ⟨un, rfl⟩ := Int.eq_ofNat_of_zero_le hu0
      obtain ⟨z, hcz⟩ := HLIT.out w1 w3 un (by omega) hgL1 hg3
      have Hs3 := Lib.hid hs3
      have Hg3 := Lib.hid (grown_trans (grown_alloc Hg1.out _) hg3)
      clear hs3 hg3 hu
      go_wp2_with fail
      go_ret
      exact ⟨z, p + 1 + 1, rfl, by omega, Hs3.out, Hg3.out⟩
    · have hb0 : (y == 0) = false := by simpa using hy1
      clear hy1
      go_wp2_with fail
      refine (pick_any L g (p + 1) _ _ Hs1.out (by omega) (by omega)).mono ?_
      rintro e w3 ⟨u, rfl, hu, _, hs3, hg3⟩
      have Hs3 := Lib.hid hs3
      have Hg3 := Lib.hid (grown_trans Hg1.out hg3)
      clear hs3 hg3 hu
      go_wp2_with fail
      go_ret
      exact ⟨u, p + 1 + 1, rfl, by omega, Hs3.out, Hg3.out⟩
/-- A list of few numbers that was drawn, in new memory. -/
def DrewI (L g p K : Nat) (w : World) (e : Ending) (w' : World) : Prop :=
  ∃ (A : Option Addr) (n c : Nat) (zs : List Int) (p' : Nat), e = .returned (.slice A n c) ∧ w'.ownsRow w.heap.size 3 1 (.slice A n c) n (zs.map (Value.int .i64)) ∧ n ≤ 6 ∧ p' ≤ p + K ∧ Src w' L g p' ∧ w.grownBy w' (some g)
set_option maxHeartbeats 4000000 in
theorem l91List_any (L g p n : Nat) (w : World) (hs : Src w L g p) (hp : p ≤ 800000) (hn : n ≤ 100) :
    Calls Try.prog 75 #[.pointer (some ⟨g, 0, none⟩), .int .i64 n] w (DrewI L g p 20 w) := by
  have HS := Lib.hid hs
  have hgL : g < w.heap.size := by have := hs.lt; omega
  have hL : L ≤ w.heap.size := hs.lt.2
  clear hs
  obtain ⟨i0, hi, hz0, hz1, hz2⟩ := info_parts Try.infoInt
  go_enter Try.func75, Try.ntmps75
  go_wp2_with fail
  refine (pick_any L g p _ _ (HS.out.alloc _) (by omega) (by omega)).mono ?_
  rintro e w1 ⟨X, rfl, hX, _, hs1, hg1⟩
  obtain ⟨hX0, hX6⟩ := hX (by omega)
  have HS1 := Lib.hid hs1
  have HO1 : Hid (w1.ownsRow w.heap.size 3 1 (.slice (some ⟨w.heap.size, 0, none⟩) 0 0) 0 (([] : List Int).map (Value.int .i64))) := own_kept (own_lit0 w _) hg1 (fun a r h1 h2 => by simp [Value.ownBlock] at h1; cases h2; omega)
  have HG1 := Lib.hid (grown_trans (grown_alloc (grown_refl w (some g)) _) hg1)
  clear hs1 hg1 hX
  go_wp2_with fail
  go_loopw [5, 7] (fun v i wr => ∃ (k : Nat) (zs : List Int) (p' : Nat), (k : Int) ≤ X ∧ i = .int .i64 k ∧ Hid (wr.ownsRow w.heap.size 3 1 v k (zs.map (Value.int .i64))) ∧ p' ≤ p + 1 + 2 * k ∧ Hid (Src wr L g p') ∧ Hid (w.grownBy wr (some g))) (fun _ i _ => 6 - (intOf i).toNat)
  case atStart => exact ⟨0, [], p + 1, by omega, rfl, HO1.out, by omega, HS1.out, HG1.out⟩
  case round =>
    obtain ⟨k, zs, p', hk, rfl, Ho, hp', Hs, Hg⟩ := hrel
    clear HO1 HS1 HG1
    obtain ⟨A2, c2, rfl, hkc, hcm, hfb⟩ := own_form Ho.out
    have HFB := Lib.hid hfb
    clear hfb
    have hsz : w.heap.size ≤ wr.heap.size := Hg.out.size
    by_cases hlt : (k : Int) < X
    · by_cases hn0 : (0 : Int) < (n : Int)
      · go_wp2_with fail
        refine (l91At_any L g p' n _ Hs.out (by omega) hn).mono ?_
        rintro e w2 ⟨y, p2, rfl, hp2, hs2, hg2⟩
        have Hs2 := Lib.hid hs2
        have hown : w2.ownsRow w.heap.size 3 1 (.slice A2 k c2) k (zs.map (Value.int .i64)) := own_kept Ho.out hg2 (fun a r h1 h2 => by have := (HFB.out a h1).1; cases h2; omega)
        have Hg2 := Lib.hid (grown_trans Hg.out hg2)
        have hsz2 : w.heap.size ≤ w2.heap.size := Hg2.out.size
        clear hs2 hg2
        go_wp2_with (at_builtin; refine wpList_append_own _ rfl _ _ 23 rfl w.heap.size 3 i0 (.int .i64 0) 1 8 Try.underlying23 hi hz0 hz1 hz2 rfl (by decide) _ _ _ rfl (hown.alloc _) ⟨w2.heap.size, 0, none⟩ 1 1 [.int .i64 y] rfl rfl (cell_new _ _ _) (one_cell _ rfl) ?c3 ?c4 ?c5 ?_)
        case c3 => unfold maxLen; omega
        case c4 => omega
        case c5 => simp; omega
        intro v3 w3 hown3 hgrow3 _
        have Ho3 := Lib.hid hown3
        have Hs3 := Lib.hid ((Hs2.out.alloc (.cells #[.int .i64 y] 3)).grown hgrow3 (fun r h => by have := (HFB.out r h).1; omega))
        have Hg3 := Lib.hid (grown_new (grown_alloc Hg2.out (.cells #[.int .i64 y] 3)) hgrow3 (fun r h => (HFB.out r h).1))
        clear hown hown3 hgrow3
        go_wp2_with fail
        go_roundw
        case rel => exact ⟨k + 1, zs ++ [y], p2, by omega, by go_num, by unfold Hid; rw [List.map_append]; exact Ho3.out, by omega, Hs3.out, Hg3.out⟩
        case measure => simp [intOf]; omega
      · have hd0 : decide ((0 : Int) < (n : Int)) = false := decide_eq_false hn0
        go_wp2_with fail
        go_ret
        exact ⟨_, k, _, zs, p', rfl, Ho.out, by omega, by omega, Hs.out, Hg.out⟩
    · have hd1 : decide ((k : Int) < X) = false := decide_eq_false hlt
      go_wp2_with fail
      go_ret
      exact ⟨_, k, _, zs, p', rfl, Ho.out, by omega, by omega, Hs.out, Hg.out⟩
end Go.Proofs.Ytpfgjkgjeejghaa
