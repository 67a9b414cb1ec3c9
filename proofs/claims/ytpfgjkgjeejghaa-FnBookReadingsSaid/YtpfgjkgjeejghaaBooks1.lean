/-
  Words on rows of rows: a slice of slices that reads as a list of lists (RdM), rows of rows in new memory (OwnM); contracts of the laws' helpers szIntSS, toIntSS, eqIntSS, markIntSS.
  Conditions: the rows read as lists of integers.
-/
import Derived.Test.YtpfgjkgjeejghaaPath1
import Derived.Test.YtpfgjkgjeejghaaChg
namespace Go.Proofs.Ytpfgjkgjeejghaa
open Go.RowKit
set_option linter.unusedVariables false
attribute [local go_sem ↓] Go.wp_at_zero Go.wp_at_succ

theorem Try.infoRow : (Try.prog.info? 23).map (fun i => (i.zero, i.size, i.bytes)) = some (some (.slice none 0 0), 1, 24) := by kernel_rfl

/-- The slice value '.slice A n c' holds rows that read as the lists zss. -/
def RdM (w : World) (A : Option Addr) (n : Nat) (zss : List (List Int)) : Prop :=
  zss.length = n ∧ (0 < n → ∃ b off, A = some ⟨b, off, none⟩ ∧ ∀ k zs, zss[k]? = some zs → ∃ A' n' c', w.cell? ⟨b, off + k, none⟩ = some (.slice A' n' c') ∧ RdI w A' n' zs ∧ n' ≤ c' ∧ c' ≤ maxLen)
section
variable {w w' : World} {n : Nat} {A : Option Addr} {zss : List (List Int)}
theorem RdM.len (h : RdM w A n zss) : zss.length = n := h.1
theorem RdM.at_ {k : Nat} (h : RdM w A n zss) (hk : k < n) : ∃ b off A' n' c' zs, A = some ⟨b, off, none⟩ ∧ zss[k]? = some zs ∧ w.cell? ⟨b, off + k, none⟩ = some (.slice A' n' c') ∧ RdI w A' n' zs ∧ n' ≤ c' ∧ c' ≤ maxLen := by
  obtain ⟨b, off, e, hc⟩ := h.2 (by omega)
  have hl : k < zss.length := by have := h.1; omega
  obtain ⟨A', n', c', h1, h2, h3, h4⟩ := hc k _ (List.getElem?_eq_getElem hl)
  exact ⟨b, off, A', n', c', _, e, List.getElem?_eq_getElem hl, h1, h2, h3, h4⟩
theorem RdM.below (h : RdM w A n zss) (hb : Below w.heap.size w w') : RdM w' A n zss :=
  ⟨h.1, fun h0 => by
    obtain ⟨b, off, e, hc⟩ := h.2 h0
    refine ⟨b, off, e, fun k zs hk => ?_⟩
    obtain ⟨A', n', c', h1, h2, h3⟩ := hc k zs hk
    exact ⟨A', n', c', (hb.cell (block_lt_of_cell h1)).trans h1, h2.below hb, h3⟩⟩
theorem RdM.drewN (h : RdM w A n zss) (k : Nat) : RdM (w.drewN k) A n zss := h
theorem RdM.drew (h : RdM w A n zss) : RdM w.drew A n zss := h
end

/-- How many numbers all lists have. -/
def tot (zss : List (List Int)) : Nat := (zss.map List.length).sum
theorem tot_snoc (zss : List (List Int)) (zs : List Int) : tot (zss ++ [zs]) = tot zss + zs.length := by simp [tot]
theorem tot_take {zss : List (List Int)} {k : Nat} {zs : List Int} (h : zss[k]? = some zs) : tot (zss.take (k + 1)) = tot (zss.take k) + zs.length := by rw [take_snoc h, tot_snoc]
theorem tot_take_le (zss : List (List Int)) (k : Nat) : tot (zss.take k) ≤ tot zss := by
  have h : tot (zss.take k ++ zss.drop k) = tot (zss.take k) + tot (zss.drop k) := by unfold tot; rw [List.map_append]; simp only [List.sum_append]
  rw [List.take_append_drop] at h
  omega
theorem len_le_tot {zss : List (List Int)} {k : Nat} {zs : List Int} (h : zss[k]? = some zs) : zs.length ≤ tot zss := by
  have h1 := tot_take h
  have h2 := tot_take_le zss (k + 1)
  omega

set_option maxHeartbeats 2000000 in
theorem szIntSS_yes (A : Option Addr) (n c : Nat) (zss : List (List Int)) (l : Int) (w : World) (hx : RdM w A n zss) (h0 : (n : Int) + tot zss ≤ l) (hl : l ≤ 1048576) :
    Calls Try.prog 32 #[.slice A n c, .int .i64 l] w fun e w' => e = .returned (.int .i64 (l - n - tot zss)) ∧ w = w' := by
  have HX := Lib.hid hx
  have Hl := Lib.hid hx.len
  clear hx
  go_enter Try.func32, Try.ntmps32
  go_wp2_with fail
  go_loop [1, 5] (fun v i => ∃ k t : Nat, k ≤ n ∧ i = .int .i64 k ∧ v = .int .i64 (l - n - t) ∧ t ≤ tot zss ∧ Hid (t = tot (zss.take k))) (fun _ i => n - (intOf i).toNat)
  case atStart => exact ⟨0, 0, Nat.zero_le _, rfl, by simp, Nat.zero_le _, by simp [Hid, tot]⟩
  case round =>
    obtain ⟨k, t, hk, rfl, rfl, ht, Ht⟩ := hrel
    by_cases hlt : k < n
    · obtain ⟨b, off, A', n', c', zs, rfl, hzk, hcz, hrd, _, _⟩ := HX.out.at_ hlt
      have hn' : t + n' ≤ tot zss := by
        have h1 := tot_take hzk
        have h2 := tot_take_le zss (k + 1)
        have h3 := Ht.out
        have h4 := hrd.len
        omega
      have HT : Hid (t + n' = tot (zss.take (k + 1))) := by unfold Hid; rw [tot_take hzk, ← Ht.out, hrd.len]
      clear hzk hrd
      go_wp2_with fail
      refine (szIntS_yes _ _ _ _ _ (by omega) (by omega)).mono ?_
      rintro e w1 ⟨rfl, rfl⟩
      go_wp2_with fail
      go_round
      case rel => exact ⟨k + 1, t + n', by omega, by go_num, by go_num, hn', HT.out⟩
      case measure => simp [intOf]; omega
    · have hkn : k = n := by omega
      subst hkn
      go_wp2_with fail
      go_ret
      refine ⟨ret_int ?_, rfl⟩
      rw [Ht.out, List.take_of_length_le (by rw [Hl.out]; exact Nat.le_refl _)]
set_option maxHeartbeats 2000000 in
theorem szIntSS_no (A : Option Addr) (n c : Nat) (zss : List (List Int)) (l : Int) (w : World) (hx : RdM w A n zss) (h0 : l < (n : Int) + tot zss) (hl0 : 0 ≤ l) (hl : l ≤ 1048576) (hn : n ≤ maxLen) :
    Calls Try.prog 32 #[.slice A n c, .int .i64 l] w fun e w' => e = .returned (.int .i64 (-1)) ∧ w = w' := by
  have HX := Lib.hid hx
  have Hl := Lib.hid hx.len
  clear hx
  unfold maxLen at hn
  by_cases hbig : l < (n : Int)
  · clear h0
    go_enter Try.func32, Try.ntmps32
    go_wp2_with fail
    go_ret
    exact ⟨rfl, rfl⟩
  · go_enter Try.func32, Try.ntmps32
    go_wp2_with fail
    go_loop [1, 5] (fun v i => ∃ k t : Nat, k ≤ n ∧ i = .int .i64 k ∧ v = .int .i64 (l - n - t) ∧ (t : Int) ≤ l - n ∧ Hid (t = tot (zss.take k))) (fun _ i => n - (intOf i).toNat)
    case atStart => exact ⟨0, 0, Nat.zero_le _, rfl, by simp, by omega, by simp [Hid, tot]⟩
    case round =>
      obtain ⟨k, t, hk, rfl, rfl, ht, Ht⟩ := hrel
      by_cases hlt : k < n
      · obtain ⟨b, off, A', n', c', zs, rfl, hzk, hcz, hrd, hc1, hc2⟩ := HX.out.at_ hlt
        have HT : Hid (t + n' = tot (zss.take (k + 1))) := by unfold Hid; rw [tot_take hzk, ← Ht.out, hrd.len]
        have hnm : Hid (n' ≤ maxLen) := by unfold Hid; omega
        clear hzk hrd hc1 hc2
        by_cases hfit : (t : Int) + n' ≤ l - n
        · go_wp2_with fail
          refine (szIntS_yes _ _ _ _ _ (by omega) (by omega)).mono ?_
          rintro e w1 ⟨rfl, rfl⟩
          go_wp2_with fail
          go_round
          case rel => exact ⟨k + 1, t + n', by omega, by go_num, by go_num, by omega, HT.out⟩
          case measure => simp [intOf]; omega
        · go_wp2_with fail
          refine (szIntS_no _ _ _ _ _ (by omega) (by omega) (by omega) hnm.out).mono ?_
          rintro e w1 ⟨rfl, rfl⟩
          go_wp2_with fail
          go_ret
          exact ⟨rfl, rfl⟩
      · exfalso
        have hkn : k = n := by omega
        have h1 := Ht.out
        rw [hkn, List.take_of_length_le (by rw [Hl.out]; exact Nat.le_refl _)] at h1
        omega
set_option maxHeartbeats 2000000 in
theorem eqIntSS_same (A A' : Option Addr) (n c n' c' : Nat) (zss : List (List Int)) (w : World) (hx : RdM w A n zss) (hy : RdM w A' n' zss) (hn : n ≤ 1099511627776) (ht : tot zss ≤ 1099511627776) :
    Calls Try.prog 36 #[.slice A n c, .slice A' n' c'] w fun e w' => e = .returned (.bool true) ∧ ∃ m, w' = w.drewN m := by
  obtain rfl : n = n' := hx.len.symm.trans hy.len
  have HX := Lib.hid hx
  have HY := Lib.hid hy
  clear hx hy
  go_enter Try.func36, Try.ntmps36
  go_wp2_with fail
  go_loopw [5] (fun i wr => ∃ k : Nat, k ≤ n ∧ i = .int .i64 k ∧ Hid (∃ s, wr = w.drewN s)) (fun i _ => n - (intOf i).toNat)
  case atStart => exact ⟨0, Nat.zero_le _, rfl, ⟨0, rfl⟩⟩
  case round =>
    obtain ⟨k, hk, rfl, HS⟩ := hrel
    by_cases hlt : k < n
    · obtain ⟨b1, o1, A1, n1, c1, zs, rfl, hzk, hcz, hrd, _, _⟩ := HX.out.at_ hlt
      obtain ⟨b2, o2, A2, n2, c2, zs', rfl, hzk', hcz', hrd', _, _⟩ := HY.out.at_ hlt
      have hzz : zs = zs' := by rw [hzk] at hzk'; exact Option.some.inj hzk'
      subst hzz
      have hn1 : n1 ≤ 1099511627776 := by have := len_le_tot hzk; have := hrd.len; omega
      have hd1 : wr.cell? ⟨b1, o1 + k, none⟩ = some (.slice A1 n1 c1) := by obtain ⟨s, rfl⟩ := HS.out; exact hcz
      have hd2 : wr.cell? ⟨b2, o2 + k, none⟩ = some (.slice A2 n2 c2) := by obtain ⟨s, rfl⟩ := HS.out; exact hcz'
      have HR1 : Hid (RdI wr A1 n1 zs) := by obtain ⟨s, rfl⟩ := HS.out; exact hrd
      have HR2 : Hid (RdI wr A2 n2 zs) := by obtain ⟨s, rfl⟩ := HS.out; exact hrd'
      clear hzk hzk' hcz hcz' hrd hrd'
      have hcall : ∀ s, Calls Try.prog 24 #[.slice A1 n1 c1, .slice A2 n2 c2] (wr.drewN s) fun e w' => e = .returned (.bool true) ∧ ∃ m, w' = (wr.drewN s).drewN m := fun s => by
        have := eqIntS_any A1 A2 n1 n2 c1 c2 zs zs (wr.drewN s) (RdI.drewN HR1.out s) (RdI.drewN HR2.out s) hn1
        rw [decide_eq_true (rfl : zs = zs)] at this
        exact this
      have HCALL := Lib.hid hcall
      clear hcall
      go_wp2_with fail
      go_quiet ((go_at_call 24; exact Calls.quiet_of (HCALL.out _)))
      go_wp2_with fail
      go_roundw
      case rel => exact ⟨k + 1, by omega, by go_num, by obtain ⟨s, rfl⟩ := HS.out; first | exact ⟨_, rfl⟩ | exact ex_drew _ _ _⟩
      case measure => simp [intOf]; omega
    · go_wp2_with fail
      go_ret
      exact ⟨rfl, HS.out⟩

/-- Rows of rows in memory of the call's own: the outer row holds rs, row k holds zss[k]; no two lie in one block. -/
structure OwnM (w : World) (B : Nat) (A : Option Addr) (n c : Nat) (rs : List Value) (zss : List (List Int)) : Prop where
  out : w.ownsRow B 23 1 (.slice A n c) n rs
  inn : ∀ (k : Nat) r zs, rs[k]? = some r → zss[k]? = some zs → w.ownsRow B 3 1 r zs.length (zs.map (Value.int .i64))
  ap : ∀ (k : Nat) r g, rs[k]? = some r → r.ownBlock = some g → (Value.slice A n c).ownBlock ≠ some g
  ap2 : ∀ (i j : Nat) r s g, i < j → rs[i]? = some r → rs[j]? = some s → r.ownBlock = some g → s.ownBlock ≠ some g
section
variable {w w' : World} {B n c : Nat} {A : Option Addr} {rs : List Value} {zss : List (List Int)}
theorem OwnM.below (h : OwnM w B A n c rs zss) (hb : Below w.heap.size w w') : OwnM w' B A n c rs zss :=
  ⟨own_belowAll h.out hb, fun k r zs h1 h2 => own_belowAll (h.inn k r zs h1 h2) hb, h.ap, h.ap2⟩
theorem OwnM.chg {S : Nat → Prop} (h : OwnM w B A n c rs zss) (hc : Chg S w w') (h0 : ∀ g, (Value.slice A n c).ownBlock = some g → ¬ S g) (h1 : ∀ (k : Nat) r g, rs[k]? = some r → r.ownBlock = some g → ¬ S g) : OwnM w' B A n c rs zss :=
  ⟨hc.own h.out h0, fun k r zs e1 e2 => hc.own (h.inn k r zs e1 e2) (fun g e => h1 k r g e1 e), h.ap, h.ap2⟩
theorem OwnM.rd (h : OwnM w B A n c rs zss) (hl : zss.length = n) : RdM w A n zss := by
  have hro := Rd.of_own h.out
  refine ⟨hl, fun h0 => ?_⟩
  obtain ⟨b, off, e, hc⟩ := hro.2 h0
  refine ⟨b, off, e, fun k zs hk => ?_⟩
  have hkn : k < rs.length := by
    have h1 := hro.1
    have h2 := (List.getElem?_eq_some_iff.1 hk).1
    omega
  have hr := List.getElem?_eq_getElem hkn
  have ho := h.inn k _ zs hr hk
  obtain ⟨A', c', e', l1, l2, _⟩ := own_form ho
  refine ⟨A', zs.length, c', ?_, ?_, l1, l2⟩
  · rw [← e']; exact hc k _ hr
  · rw [e'] at ho; exact RdI.of_own ho
theorem OwnM.push {k b : Nat} {r : Value} {zs : List Int} (h : OwnM w B (some ⟨b, 0, none⟩) n c rs (zss.take k)) (hz : zss[k]? = some zs) (hnil : ∀ (j : Nat) s, k ≤ j → rs[j]? = some s → s = .slice none 0 0)
    (hb : Below w.heap.size w w') (hr : r = .slice (some ⟨w.heap.size, 0, none⟩) zs.length zs.length) (ho : w'.ownsRow w.heap.size 3 1 r zs.length (zs.map (Value.int .i64))) (hB : B ≤ w.heap.size) :
    OwnM (w'.setCell ⟨b, k, none⟩ r) B (some ⟨b, 0, none⟩) n c (rs.set k r) (zss.take (k + 1)) := by
  have hbl : b < w.heap.size := (h.out.lt b rfl).2
  have hrb : r.ownBlock = some w.heap.size := by rw [hr]; rfl
  have hkl : k < zss.length := (List.getElem?_eq_some_iff.1 hz).1
  have old : ∀ (j : Nat) s, j < k → rs[j]? = some s → ∃ us, zss[j]? = some us ∧ w.ownsRow B 3 1 s us.length (us.map (Value.int .i64)) := by
    intro j s hj hs
    have hj2 : j < zss.length := by omega
    refine ⟨_, List.getElem?_eq_getElem hj2, h.inn j s _ hs ?_⟩
    rw [List.getElem?_take, if_pos hj]
    exact List.getElem?_eq_getElem hj2
  have at_ : ∀ (j : Nat) s, (rs.set k r)[j]? = some s → (j = k ∧ s = r) ∨ (j ≠ k ∧ rs[j]? = some s) := by
    intro j s hs
    by_cases e : j = k
    · subst e
      rw [List.getElem?_set] at hs
      simp only [if_true] at hs
      split at hs
      · exact Or.inl ⟨rfl, (Option.some.inj hs).symm⟩
      · cases hs
    · rw [List.getElem?_set_ne (fun e' => e e'.symm)] at hs
      exact Or.inr ⟨e, hs⟩
  refine ⟨((own_belowAll h.out hb).stored k r).1, ?_, ?_, ?_⟩
  · intro j s us hs hus
    rcases at_ j s hs with ⟨rfl, rfl⟩ | ⟨hne, hs'⟩
    · rw [List.getElem?_take, if_pos (by omega), hz] at hus
      cases hus
      exact own_setFar (own_base ho hB) (fun g e => by rw [hrb] at e; cases e; omega) _
    · have hj : j < k := by
        rw [List.getElem?_take] at hus
        split at hus
        · omega
        · cases hus
      refine own_setFar (own_belowAll (h.inn j s us hs' ?_) hb) (fun g e e' => ?_) _
      · rw [List.getElem?_take, if_pos (by omega)] at hus
        rw [List.getElem?_take, if_pos hj]; exact hus
      · subst e'; exact h.ap j s g hs' e rfl
  · intro j s g hs hg
    rcases at_ j s hs with ⟨rfl, rfl⟩ | ⟨hne, hs'⟩
    · rw [hrb] at hg; cases hg
      intro e; simp [Value.ownBlock] at e; omega
    · exact h.ap j s g hs' hg
  · intro i j s t g hij hs ht hg
    rcases at_ i s hs with ⟨rfl, rfl⟩ | ⟨hne, hs'⟩
    · rcases at_ j t ht with ⟨e, _⟩ | ⟨_, ht'⟩
      · omega
      · rw [hnil j t (by omega) ht']; simp [Value.ownBlock]
    · rcases at_ j t ht with ⟨e, e2⟩ | ⟨_, ht'⟩
      · subst e2
        rw [hrb]
        intro e3
        cases e3
        obtain ⟨us, _, hus⟩ := old i s (by omega) hs'
        have := (hus.lt _ hg).2
        omega
      · exact h.ap2 i j s t g hij hs' ht' hg
end
set_option maxHeartbeats 4000000 in
theorem toIntSS_any (A : Option Addr) (n c : Nat) (zss : List (List Int)) (w : World) (hx : RdM w A n zss) (hn : n ≤ 1048576) (ht : tot zss ≤ 1048576) :
    Calls Try.prog 34 #[.slice A n c] w fun e w' => ∃ rs, e = .returned (.slice (some ⟨w.heap.size, 0, none⟩) n n) ∧ OwnM w' w.heap.size (some ⟨w.heap.size, 0, none⟩) n n rs zss ∧ Below w.heap.size w w' := by
  have HX := Lib.hid hx
  have Hl := Lib.hid hx.len
  clear hx
  obtain ⟨i0, hi, hz0, hz1, hz2⟩ := info_parts Try.infoRow
  go_enter Try.func34, Try.ntmps34
  go_wp2_with (at_make; refine wpList_make_full _ rfl _ _ 42 rfl w.heap.size 23 i0 (.slice none 0 0) 1 Try.underlying42 hi hz0 hz1 _ _ _ _ n rfl rfl rfl rfl ?b2 ?b3 ?b4 ?_)
  case b2 => rw [hz2]; omega
  case b3 => unfold maxLen; omega
  case b4 => exact Nat.le_refl _
  clear hi hz0 hz1 hz2
  intro w1 hown hgrow
  have HO : Hid (OwnM w1 w.heap.size (some ⟨w.heap.size, 0, none⟩) n n (List.replicate n (.slice none 0 0)) (zss.take 0)) := by
    rw [toList_madeCells_one] at hown
    refine ⟨hown, fun k r zs h1 h2 => by simp at h2, fun k r g h1 h2 => ?_, fun i j r s g _ h1 h2 h3 => ?_⟩
    · have := List.eq_of_mem_replicate (List.mem_of_getElem? h1); rw [this] at h2; simp [Value.ownBlock] at h2
    · have := List.eq_of_mem_replicate (List.mem_of_getElem? h1); rw [this] at h3; simp [Value.ownBlock] at h3
  have HB := Lib.hid ((Below.refl w.heap.size w).grown hgrow (Nat.le_refl _) (fun k h => by cases h))
  clear hown hgrow
  go_wp2_with fail
  go_loopw [4] (fun i wr => ∃ k : Nat, k ≤ n ∧ i = .int .i64 k ∧ Hid (∃ rs, OwnM wr w.heap.size (some ⟨w.heap.size, 0, none⟩) n n rs (zss.take k) ∧ ∀ (j : Nat) s, k ≤ j → rs[j]? = some s → s = .slice none 0 0) ∧ Hid (Below w.heap.size w wr)) (fun i _ => n - (intOf i).toNat)
  case atStart => exact ⟨0, Nat.zero_le _, rfl, ⟨_, HO.out, fun j s _ h => List.eq_of_mem_replicate (List.mem_of_getElem? h)⟩, HB.out⟩
  case round =>
    obtain ⟨k, hk, rfl, Ho, Hb⟩ := hrel
    by_cases hlt : k < n
    · obtain ⟨b, off, A', n', c', zs, rfl, hzk, hcz0, hrd, _, _⟩ := HX.out.at_ hlt
      have hcz : wr.cell? ⟨b, off + k, none⟩ = some (.slice A' n' c') := (Hb.out.cell (block_lt_of_cell hcz0)).trans hcz0
      have hn' : n' ≤ 1048576 := by have := len_le_tot hzk; have := hrd.len; omega
      have HRD := Lib.hid hrd
      have HZ := Lib.hid hzk
      have HLZ := Lib.hid hrd.len
      clear hrd hzk hcz0
      go_wp2_with fail
      refine (toIntS_any _ _ _ zs _ (RdI.below HRD.out Hb.out) (by omega)).mono ?_
      rintro e w2 ⟨rfl, ho2, hb2⟩
      have HO2 := Lib.hid ho2
      have HB2 := Lib.hid hb2
      obtain ⟨rs, hrs, hnil⟩ := Ho.out
      have hst : ∃ u, w2.cell? ⟨w.heap.size, k, none⟩ = some u := by
        rw [(own_belowAll hrs.out hb2).cellAt k (by omega)]
        exact ⟨_, List.getElem?_eq_getElem (by have := hrs.out.1; omega)⟩
      obtain ⟨u, hst⟩ := hst
      have hfz : w2.frozen? ⟨w.heap.size, k, none⟩ = false := (own_belowAll hrs.out hb2).frozenAt k
      have HRS := Lib.hid (And.intro hrs hnil)
      clear hrs hnil ho2 hb2 Ho
      go_wp2_with fail
      go_roundw
      case rel =>
        refine ⟨k + 1, by omega, by go_num, ⟨_, HRS.out.1.push HZ.out HRS.out.2 HB2.out (by rw [HLZ.out]) (by rw [HLZ.out]; exact HO2.out) Hb.out.size, ?_⟩, (below_seq Hb.out HB2.out).setCell (Nat.le_refl _) _⟩
        intro j s hj hs
        rw [List.getElem?_set_ne (by omega)] at hs
        exact HRS.out.2 j s (by omega) hs
      case measure => simp [intOf]; omega
    · have hkn : k = n := by omega
      subst hkn
      obtain ⟨rs, hrs, _⟩ := Ho.out
      rw [List.take_of_length_le (by rw [Hl.out]; exact Nat.le_refl _)] at hrs
      have HRS := Lib.hid hrs
      clear hrs Ho
      go_wp2_with fail
      go_ret
      exact ⟨rs, rfl, HRS.out, Hb.out⟩
end Go.Proofs.Ytpfgjkgjeejghaa
