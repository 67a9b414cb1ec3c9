/-
  Contracts of drawn texts: of, l91Events, l91Legal, l91Broken and the draws of texts: some text of at most 40 bytes, in a world where old memory is as it was.
  Conditions: fewer than 900000 numbers have been drawn.
-/
import Derived.Test.YtlneedjhdnjnpaaGrown
import Derived.Test.YtlneedjhdnjnpaaBlkE
import Derived.Test.YtlneedjhdnjnpaaStrs
namespace Go.Proofs.Ytlneedjhdnjnpaa
open Go.RowKit
set_option linter.unusedVariables false
attribute [local go_sem ↓] Go.wp_at_zero Go.wp_at_succ run_eql_block run_neq_block

/-- A text that was drawn. -/
def DrewS (L g p K M : Nat) (w : World) (e : Ending) (w' : World) : Prop :=
  ∃ (S : ByteArray) (p' : Nat), e = .returned (.string S) ∧ S.size ≤ M ∧ p' ≤ p + K ∧ Src w' L g p' ∧ w.grownBy w' (some g)
set_option maxHeartbeats 1000000 in
theorem of_any (L g p : Nat) (b n c : Nat) (ss : List ByteArray) (M : Nat) (w : World) (hs : Src w L g p) (hp : p ≤ 1000000) (hx : RdS w (some ⟨b, 0, none⟩) n ss) (hb : L ≤ b) (h1 : 1 ≤ n) (h2 : n ≤ 1000) (hM : ∀ s ∈ ss, s.size ≤ M) :
    Calls Try.prog 65 #[.pointer (some ⟨g, 0, none⟩), .slice (some ⟨b, 0, none⟩) n c] w (DrewS L g p 1 M w) := by
  have HS := Lib.hid hs
  have HX := Lib.hid hx
  have HM := Lib.hid hM
  have hgL : g < L := hs.lts.1
  clear hs hx hM
  go_enter Try.func65, Try.ntmps65
  go_wp2_with fail
  refine (pick_any L g p _ _ HS.out (by omega) (by omega)).mono ?_
  rintro e w1 ⟨x, rfl, hx1, _, hs1, hg1⟩
  obtain ⟨hx0, hxn⟩ := hx1 (by omega)
  obtain ⟨k, rfl⟩ := Int.eq_ofNat_of_zero_le hx0
  have hkn : k < n := by omega
  obtain ⟨b', off', z, e1, hz, hcz0⟩ := HX.out.at_ hkn
  simp only [Option.some.injEq, Addr.mk.injEq, and_true] at e1
  obtain ⟨rfl, rfl⟩ := e1
  rw [Nat.zero_add] at hcz0
  have hcz : w1.cell? ⟨b, k, none⟩ = some (.string z) := hg1.cell (a := ⟨b, k, none⟩) hcz0 (fun e => by injection e with e; have e' : b = g := e; omega)
  have HZ : Hid (z.size ≤ M) := HM.out z (List.mem_of_getElem? hz)
  have HS1 := Lib.hid hs1
  have HG1 := Lib.hid hg1
  clear hs1 hg1 hx1 hz hcz0
  go_wp2_with fail
  go_ret
  exact ⟨z, p + 1, rfl, HZ.out, by omega, HS1.out, HG1.out⟩
theorem next_size (n : Int) (i o : Bool) : (mkS (Bk.next n i o)).size ≤ 7 := by rw [mkS_size]; exact Bk.nx_len n i o 7
theorem add_one_facts (O S : ByteArray) (x : Nat) (hO : O.size ≤ 1000) (hx : x < S.size) : ∃ X : ByteArray, (∀ W : World, (Op.stringOp .add O (S.extract x (x + 1))).run Try.prog W = .ok (.string X) W) ∧ X.size = O.size + 1 := by
  have h1 : (S.extract x (x + 1)).size = 1 := by rw [← str_len', extract_one S x hx]; rfl
  exact ⟨_, fun W => run_string_add_sum W _ _ (by omega), by rw [ByteArray.size_append, h1]⟩
theorem lits_rd {w w' : World} {b : Nat} {t : TypeId} (ss : List ByteArray) (h : w'.heap[b]? = some (.cells ((ss.map Value.string).toArray) t (0, 0))) : RdS w' (some ⟨b, 0, none⟩) ss.length ss := by
  refine ⟨by simp, fun _ => ⟨b, 0, rfl, fun j u hu => ?_⟩⟩
  rw [Nat.zero_add, cell_of_row w' b j _ _ _ h]
  simpa using hu
set_option maxRecDepth 100000 in
set_option maxHeartbeats 8000000 in
theorem l91Events_any (L g p : Nat) (n : Int) (i o : Bool) (m : Int) (w : World) (hs : Src w L g p) (hp : p ≤ 900000) (hm : m ≤ 40) :
    Calls Try.prog 75 #[.pointer (some ⟨g, 0, none⟩), bv n i o, .int .i64 m] w (DrewS L g p 42 42 w) := by
  have HS := Lib.hid hs
  have hgL : g < L := hs.lts.1
  have hL : L ≤ w.heap.size := hs.lts.2
  clear hs
  go_enter Try.func75, Try.ntmps75
  go_wp2_with fail
  go_loopw [7, 8] (fun ov j wr => ∃ (k : Nat) (O : ByteArray) (p' : Nat) (bn : Int) (bi bo : Bool), k ≤ 40 ∧ j = .int .i64 k ∧ ov = .string O ∧ O.size ≤ k ∧ p' ≤ p + k ∧ Hid (Src wr L g p') ∧ Hid (Room wr w.heap.size (.int .i64 bn) (.bool bi) (.bool bo)) ∧ Hid (w.grownBy wr (some g))) (fun _ j _ => (m - intOf j).toNat)
  case atStart => exact ⟨0, ⟨#[]⟩, p, n, i, o, by omega, rfl, rfl, by simp [ByteArray.size], by omega, HS.out.alloc _, room_alloc _ _ _ _ _, gw_alloc (gw_refl _ _) _⟩
  case round =>
    obtain ⟨k, O, p', bn, bi, bo, hk, rfl, rfl, hO, hp', Hs, HR, Hg⟩ := hrel
    by_cases hlt : (k : Int) < m
    · obtain ⟨b0, b1, b2, _, _, _⟩ := HR.out
      go_wp2_with fail
      refine (specBlockNext_any _ _ _ _).mono ?_
      rintro e w2 ⟨rfl, hb2⟩
      have Hs2 := Lib.hid (Hs.out.belowAll hb2)
      have HR2 := Lib.hid (HR.out.later hb2)
      have Hg2 := Lib.hid (gw_belowAll Hg.out hb2)
      clear hb2 b0 b1 b2
      have hsz7 := next_size bn bi bo
      cases hN : Bk.next bn bi bo with
      | nil =>
        rw [show mkS [] = ⟨#[]⟩ from rfl]
        clear hN hsz7
        go_wp2_with fail
        go_ret
        exact ⟨O, p', rfl, by omega, by omega, Hs2.out, Hg2.out⟩
      | cons c0 cs =>
        rw [hN] at hsz7
        obtain ⟨NS, hNS⟩ : ∃ NS, NS = mkS (c0 :: cs) := ⟨_, rfl⟩
        rw [← hNS] at hsz7 ⊢
        have hl : NS.toList = c0 :: cs := by rw [hNS, mkS_toList]
        have hne1 : NS.toList.isEmpty = false := by rw [hl]; rfl
        have hne2 : (NS.toList == []) = false := by rw [hl]; rfl
        have hpos : 1 ≤ NS.size := by rw [← str_len', hl]; simp
        clear hN hNS hl
        go_wp2_with fail
        refine (pick_any L g p' _ _ Hs2.out (by omega) (by omega)).mono ?_
        rintro e w3 ⟨x, rfl, hx1, _, hs3, hg3⟩
        obtain ⟨hx0, hxn⟩ := hx1 (by omega)
        obtain ⟨xn, rfl⟩ := Int.eq_ofNat_of_zero_le hx0
        have hxlt : xn < NS.size := by omega
        have Hs3 := Lib.hid hs3
        have HR3 := Lib.hid (HR2.out.grown hg3 (fun r h => by cases h; omega))
        have Hg3 := Lib.hid (gw_trans Hg2.out hg3)
        clear hs3 hg3 hx1 HR2 Hg2
        obtain ⟨X, hadd, hXz⟩ := add_one_facts O NS xn (by omega) hxlt
        have HXz : Hid (X.size ≤ k + 1) := by unfold Hid; omega
        have HEz : Hid ((NS.extract xn (xn + 1)).size ≤ maxLen) := by unfold Hid; rw [← str_len', extract_one NS xn hxlt]; simp [maxLen]
        obtain ⟨rn, ri, ro, rk, hres⟩ := resV_form (Bk.stepR bn bi bo (NS.extract xn (xn + 1)).toList)
        have HRes := Lib.hid hres
        obtain ⟨c0', c1', c2', _, _, _⟩ := HR3.out
        clear hXz hres
        have x0 : (0 : Int) ≤ (xn : Int) + 1 := by omega
        have x1 : ((xn : Int) + 1).toNat = xn + 1 := by omega
        have x2 : (xn : Int) + 1 ≤ NS.size := by omega
        have w1 : IntKind.i64.wrap ((xn : Int) + 1) = (xn : Int) + 1 := IntWalk.i64_in _ (by omega)
        have hsl : ∀ W : World, (Instr.slice 9 (.string NS) (some (.int .i64 (xn : Int))) (some (.int .i64 ((xn : Int) + 1))) none).run Try.prog W = .ok (.string (NS.extract xn (xn + 1))) W := fun W => slice_one W NS xn hxlt
        go_wp2_with fail
        go_region_with (first | (go_at_call 35; refine (specBlockStep_any bn bi bo _ _ HEz.out).mono ?_; rintro e w4 ⟨rfl, hb4⟩; rw [HRes.out]; have Hs4 := Lib.hid (Hs3.out.drewS.belowAll hb4); have HR4 := Lib.hid (HR3.out.drew.later hb4); have Hg4 := Lib.hid (gw_belowAll (gw_drew Hg3.out) hb4); clear hb4 c0' c1' c2'; obtain ⟨d0, d1, d2, f0, f1, f2⟩ := HR4.out))
        all_goals clear w1 x1 hadd hsl
        all_goals go_wp2_with fail
        all_goals go_round
        all_goals first
          | (simp [intOf]; omega)
          | (refine ⟨k + 1, X, p' + 1, rn, ri, ro, by omega, by go_num, rfl, HXz.out, by omega, ?_, ?_, ?_⟩
             · exact Hs4.out.grown (gw_set3 _ _ _ _ _) (fun r h => by cases h; omega)
             · exact HR4.out.set3 _ _ _
             · exact gw_new Hg4.out (gw_set3 _ _ _ _ _) (fun r h => by cases h; omega))
    · go_wp2_with fail
      refine (pick_any L g p' _ _ Hs.out (by omega) (by omega)).mono ?_
      rintro e w3 ⟨x, rfl, hx1, _, hs3, hg3⟩
      obtain ⟨hx0, hxn⟩ := hx1 (by omega)
      have Hs3 := Lib.hid hs3
      have Hg3 := Lib.hid (gw_trans Hg.out hg3)
      have hL3 : L ≤ w3.heap.size := hs3.lts.2
      clear hs3 hg3 hx1
      by_cases hx : x = 0
      · subst hx
        go_wp2_with fail
        refine (of_any L g (p' + 1) w3.heap.size 3 3 [⟨#[120]⟩, ⟨#[101]⟩, ⟨#[97, 97]⟩] 2 _ (Hs3.out.alloc _) (by omega) (lits_rd (w := w3) _ (heap_alloc_new w3 _)) (by omega) (by omega) (by omega) (by decide)).mono ?_
        rintro e w4 ⟨S, p4, rfl, hS, hp4, hs4, hg4⟩
        have Hs4 := Lib.hid hs4
        have Hg4 := Lib.hid (gw_trans (gw_alloc Hg3.out _) hg4)
        clear hs4 hg4
        have HXz : Hid ((O ++ S).size ≤ 42) := by unfold Hid; rw [ByteArray.size_append]; omega
        go_wp2_with fail
        go_ret
        exact ⟨O ++ S, p4, rfl, HXz.out, by omega, Hs4.out, Hg4.out⟩
      · have hxb : (x == 0) = false := by simpa using hx
        clear hx
        go_wp2_with fail
        go_ret
        exact ⟨O, p' + 1, rfl, by omega, by omega, Hs3.out, Hg3.out⟩
set_option maxHeartbeats 1000000 in
theorem l91Legal_any (L g p : Nat) (w : World) (hs : Src w L g p) (hp : p ≤ 800000) :
    Calls Try.prog 58 #[.pointer (some ⟨g, 0, none⟩)] w (DrewS L g p 44 42 w) := by
  have HS := Lib.hid hs
  clear hs
  go_enter Try.func58, Try.ntmps58
  go_wp2_with fail
  refine (pick_any L g p _ _ HS.out (by omega) (by omega)).mono ?_
  rintro e w1 ⟨x, rfl, hx1, _, hs1, hg1⟩
  have HS1 := Lib.hid hs1
  have HG1 := Lib.hid hg1
  clear hs1 hg1 hx1
  by_cases hx : x = 0
  · subst hx
    go_wp2_with fail
    refine (l91Events_any L g (p + 1) 0 false false 31 _ HS1.out (by omega) (by omega)).mono ?_
    rintro e w2 ⟨S, p', rfl, hS, hp', hs2, hg2⟩
    have HS2 := Lib.hid hs2
    have HG2 := Lib.hid (gw_trans HG1.out hg2)
    clear hs2 hg2
    go_wp2_with fail
    go_ret
    exact ⟨S, p', rfl, hS, by omega, HS2.out, HG2.out⟩
  · have hxb : (x == 0) = false := by simpa using hx
    clear hx
    go_wp2_with fail
    refine (pick_any L g (p + 1) _ _ HS1.out (by omega) (by omega)).mono ?_
    rintro e w2 ⟨y, rfl, hy1, _, hs2, hg2⟩
    obtain ⟨hy0, hy16⟩ := hy1 (by omega)
    have HS2 := Lib.hid hs2
    have HG2 := Lib.hid (gw_trans HG1.out hg2)
    clear hs2 hg2 hy1
    go_wp2_with fail
    refine (l91Events_any L g (p + 1 + 1) 0 false false y _ HS2.out (by omega) (by omega)).mono ?_
    rintro e w3 ⟨S, p', rfl, hS, hp', hs3, hg3⟩
    have HS3 := Lib.hid hs3
    have HG3 := Lib.hid (gw_trans HG2.out hg3)
    clear hs3 hg3
    go_wp2_with fail
    go_ret
    exact ⟨S, p', rfl, hS, by omega, HS3.out, HG3.out⟩
/-- A text that was drawn; the source is forgotten. -/
def DrewT (M : Nat) (w : World) (e : Ending) (w' : World) : Prop := ∃ S : ByteArray, e = .returned (.string S) ∧ S.size ≤ M ∧ Below w.heap.size w w'
theorem below_src {w w1 w2 : World} {g : Nat} (h : Below w.heap.size w w1) (hg : w1.grownBy w2 (some g)) (hge : w.heap.size ≤ g) : Below w.heap.size w w2 :=
  h.grown hg h.size (fun r e => by cases e; exact hge)
theorem DrawBlockLegal_any (A : Option Addr) (n c : Nat) (bs : List UInt8) (w : World) (hx : RdB w A n bs) (hl : n ≤ c) (hc : c ≤ maxLen) :
    Calls Try.prog 22 #[.slice A n c] w (DrewT 42 w) := by
  have HX := Lib.hid hx
  clear hx
  go_enter Try.func22, Try.ntmps22
  go_wp2_with fail
  refine (l6Open_any _ _ _ bs _ HX.out hl hc).mono ?_
  rintro e w1 ⟨rfl, hs1, hb1⟩
  have Hs1 := Lib.hid hs1
  have Hb1 := Lib.hid hb1
  clear hs1 hb1
  go_wp2_with fail
  refine (l91Legal_any _ _ _ _ Hs1.out (by omega)).mono ?_
  rintro e w2 ⟨S, p', rfl, hS, _, _, hg2⟩
  have Hg2 := Lib.hid hg2
  clear hg2
  go_wp2_with fail
  go_ret
  exact ⟨S, rfl, hS, below_src Hb1.out Hg2.out (Nat.le_refl _)⟩
theorem DrawBlockTrains_any (A : Option Addr) (n c : Nat) (bs : List UInt8) (w : World) (hx : RdB w A n bs) (hl : n ≤ c) (hc : c ≤ maxLen) :
    Calls Try.prog 20 #[.slice A n c] w (DrewT 42 w) := by
  have HX := Lib.hid hx
  clear hx
  go_enter Try.func20, Try.ntmps20
  go_wp2_with fail
  refine (l6Open_any _ _ _ bs _ HX.out hl hc).mono ?_
  rintro e w1 ⟨rfl, hs1, hb1⟩
  have Hs1 := Lib.hid hs1
  have Hb1 := Lib.hid hb1
  clear hs1 hb1
  go_wp2_with fail
  refine (l91Legal_any _ _ _ _ Hs1.out (by omega)).mono ?_
  rintro e w2 ⟨S, p', rfl, hS, _, _, hg2⟩
  have Hg2 := Lib.hid hg2
  clear hg2
  go_wp2_with fail
  go_ret
  exact ⟨S, rfl, hS, below_src Hb1.out Hg2.out (Nat.le_refl _)⟩
theorem DrawBlockNormal_any (A : Option Addr) (n c : Nat) (bs : List UInt8) (w : World) (hx : RdB w A n bs) (hl : n ≤ c) (hc : c ≤ maxLen) :
    Calls Try.prog 25 #[.slice A n c] w (DrewT 42 w) := by
  have HX := Lib.hid hx
  clear hx
  go_enter Try.func25, Try.ntmps25
  go_wp2_with fail
  refine (l6Open_any _ _ _ bs _ HX.out hl hc).mono ?_
  rintro e w1 ⟨rfl, hs1, hb1⟩
  have Hs1 := Lib.hid hs1
  have Hb1 := Lib.hid hb1
  clear hs1 hb1
  go_wp2_with fail
  refine (l91Legal_any _ _ _ _ Hs1.out (by omega)).mono ?_
  rintro e w2 ⟨S, p', rfl, hS, _, _, hg2⟩
  have Hg2 := Lib.hid hg2
  clear hg2
  go_wp2_with fail
  go_ret
  exact ⟨S, rfl, hS, below_src Hb1.out Hg2.out (Nat.le_refl _)⟩
end Go.Proofs.Ytlneedjhdnjnpaa
