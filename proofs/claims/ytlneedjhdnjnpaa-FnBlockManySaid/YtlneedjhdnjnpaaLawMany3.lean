/-
  The walks of the laws FnBlockNext and FnBlockMany: each returns true for every list of bytes and leaves old memory as it was.
-/
import Derived.Test.YtlneedjhdnjnpaaDrawMany
import Derived.Test.YtlneedjhdnjnpaaBlkC
import Derived.Test.YtlneedjhdnjnpaaMany2
import Derived.Test.YtlneedjhdnjnpaaMany4
import Derived.BigQuiet
namespace Go.Proofs.Ytlneedjhdnjnpaa
open Go.RowKit
set_option linter.unusedVariables false
attribute [local go_sem ↓] Go.wp_at_zero Go.wp_at_succ run_eql_block run_neq_block

namespace Bk
theorem many_one {s : Nat} (h : s < 5) : many 1 s = ((nl s).length : Nat) := by
  rcases lt5 h with rfl | rfl | rfl | rfl | rfl <;> rfl
theorem many_next {n s : Nat} (h : s < 5) : many (n + 1) s = ns (many n) s (nl s).length := by rw [ns_full _ h]; rfl
theorem many_pos : ∀ (n : Nat) {s : Nat}, s < 5 → 1 ≤ many n s
  | 0, s, _ => by simp [many]
  | n + 1, s, h => by
    rw [many_next h]
    have ih := fun {t : Nat} (ht : t < 5) => many_pos n ht
    have h0 := ih (t := 0) (by omega); have h1 := ih (t := 1) (by omega); have h2 := ih (t := 2) (by omega); have h3 := ih (t := 3) (by omega); have h4 := ih (t := 4) (by omega)
    rcases lt5 h with rfl | rfl | rfl | rfl | rfl <;> simp [ns, nl, go, step] <;> omega
theorem nl_up {s : Nat} (h : s < 5) {a b : UInt8} (ha : (nl s)[0]? = some a) (hb : (nl s)[1]? = some b) : a.toNat < b.toNat := by
  rcases lt5 h with rfl | rfl | rfl | rfl | rfl <;> simp [nl] at ha hb <;> (obtain rfl := ha; obtain rfl := hb; decide)
end Bk

set_option maxRecDepth 100000 in
set_option maxHeartbeats 16000000 in
theorem FnBlockNext_walk (w : World) (A : Option Addr) (n c : Nat) (bs : List UInt8) (hx : RdB w A n bs) (hl : n ≤ c) (hc : c ≤ maxLen) :
    Calls Try.prog 7 #[.slice A n c] w fun e w' => e = .returned (.bool true) ∧ Below w.heap.size w w' := by
  have HX := Lib.hid hx
  have hc' := Lib.hid hc
  clear hx
  unfold maxLen at hc
  by_cases hbig : (1048576 : Int) < n
  · go_enter Try.func7, Try.ntmps7
    go_wp2_with fail
    go_ret
    exact ⟨rfl, Below.refl _ _⟩
  · have hs : (n : Int) ≤ 1048576 := by omega
    clear hbig
    go_enter Try.func7, Try.ntmps7
    go_wp2_with fail
    refine (DrawBlockNext_any _ _ _ bs _ HX.out hl hc'.out).mono ?_
    rintro e w1 ⟨bn, bi, bo, rfl, _, _, hb1⟩
    have Hb1 := Lib.hid hb1
    clear hb1
    have HR1 := Lib.hid (room_alloc w1 (.int .i64 bn) (.bool bi) (.bool bo) 34)
    have Hba := Lib.hid (Hb1.out.alloc Hb1.out.size (.cells #[.int .i64 bn, .bool bi, .bool bo] 34))
    cases hst : Bk.stOf bn bi bo with
    | none =>
      have HN : Hid (Bk.next bn bi bo = []) := Bk.next_none hst
      clear hst
      go_wp2_with fail
      refine (implBlockNext_any _ _ _ _).mono ?_
      rintro e w2 ⟨rfl, hb2⟩
      rw [HN.out, show mkS [] = ⟨#[]⟩ from rfl]
      have HR2 := Lib.hid (HR1.out.later hb2)
      obtain ⟨b0, b1, b2, _, _, _⟩ := HR2.out
      have Hb2 := Lib.hid (below_seq Hba.out hb2)
      clear hb2
      go_wp2_with fail
      refine (specBlockNext_any _ _ _ _).mono ?_
      rintro e w3 ⟨rfl, hb3⟩
      rw [HN.out, show mkS [] = ⟨#[]⟩ from rfl]
      have Hb3 := Lib.hid (below_seq Hb2.out hb3)
      clear hb3 b0 b1 b2
      go_wp2_with fail
      go_ret
      exact ⟨rfl, Hb3.out⟩
    | some s =>
      obtain ⟨hs5, rfl, rfl, rfl⟩ := Bk.stOf_lt hst
      clear hst
      obtain ⟨NS, hNS⟩ : ∃ NS, NS = mkS (Bk.nl s) := ⟨_, rfl⟩
      have HNX : Hid (mkS (Bk.next (Bk.nd s) (Bk.ins s) (Bk.off s)) = NS) := by unfold Hid; rw [Bk.next_nl hs5, hNS]
      have HLL : Hid (NS.toList = Bk.nl s) := by unfold Hid; rw [hNS, mkS_toList]
      have HLZ : Hid (NS.size = (Bk.nl s).length) := by unfold Hid; rw [hNS, mkS_size]
      have hz2 : NS.size ≤ 2 := by rw [hNS, mkS_size]; exact (Bk.nl_len hs5).2
      have hz1 : 1 ≤ NS.size := by rw [hNS, mkS_size]; exact (Bk.nl_len hs5).1
      have hl1 : NS.toList ≠ [] := fun e => by rw [← str_len', e] at hz1; simp at hz1
      have hne1 : NS.toList.isEmpty = false := by cases h : NS.toList with | nil => exact absurd h hl1 | cons a b => rfl
      have hne2 : (NS.toList == []) = false := by rw [beq_eq_false_iff_ne]; exact hl1
      have HM1 : Hid (Bk.manyR (Bk.nd s) (Bk.ins s) (Bk.off s) 1 = (NS.size : Int)) := by
        unfold Hid
        have := Bk.manyR_in (m := 1) (Bk.stOf_st hs5) (by omega)
        rw [Bk.many_one hs5, ← HLZ.out] at this
        exact this
      clear hNS hl1
      go_wp2_with fail
      refine (implBlockNext_any _ _ _ _).mono ?_
      rintro e w2 ⟨rfl, hb2⟩
      rw [HNX.out]
      have HR2 := Lib.hid (HR1.out.later hb2)
      obtain ⟨b0, b1, b2, _, _, _⟩ := HR2.out
      have Hb2 := Lib.hid (below_seq Hba.out hb2)
      clear hb2
      go_wp2_with fail
      refine (specBlockNext_any _ _ _ _).mono ?_
      rintro e w3 ⟨rfl, hb3⟩
      rw [HNX.out]
      have HR3 := Lib.hid (HR2.out.later hb3)
      have Hb3 := Lib.hid (below_seq Hb2.out hb3)
      clear hb3 b0 b1 b2
      go_wp2_with fail
      clear hne1 hne2
      go_loopw [6] (fun x wr => ∃ k : Nat, k ≤ NS.size ∧ x = .int .i64 k ∧ Hid (Room wr w1.heap.size (.int .i64 (Bk.nd s)) (.bool (Bk.ins s)) (.bool (Bk.off s))) ∧ Hid (Below w.heap.size w wr)) (fun x _ => NS.size - (intOf x).toNat)
      case atStart => exact ⟨0, by omega, rfl, HR3, Hb3⟩
      case round =>
        clear HR1 Hba Hb1 HR2 Hb2 HR3 Hb3
        obtain ⟨k, hk, rfl, HR, Hb⟩ := hrel
        have hk012 : k = 0 ∨ (k = 1 ∧ k < NS.size) ∨ k = NS.size := by omega
        rcases hk012 with h | ⟨h, h2⟩ | h
        · have HK : Hid (k = 0) := h
          have hlt : k < NS.size := by omega

          clear h
          have hbt : (NS[k]'hlt).toNat < 256 := (NS[k]'hlt).toNat_lt
          obtain ⟨c0, hc0⟩ : ∃ c0, c0 = (NS[k]'hlt) := ⟨_, rfl⟩
          have HC : Hid ((Bk.nl s)[k]? = some c0) := by unfold Hid; rw [← HLL.out, hc0]; exact str_at' NS k hlt
          obtain ⟨hst, hgo⟩ := Bk.nl_step hs5 (List.mem_of_getElem? HC.out)
          obtain ⟨u, hu⟩ : ∃ u, u = Bk.go s c0 := ⟨_, rfl⟩
          rw [← hu] at hst hgo
          obtain ⟨E, hsl, hE⟩ : ∃ E : ByteArray, (∀ W : World, (Instr.slice 9 (.string NS) (some (.int .i64 (k : Int))) (some (.int .i64 ((k : Int) + 1))) none).run Try.prog W = .ok (.string E) W) ∧ E.toList = [c0] :=
            ⟨_, fun W => slice_one W NS k hlt, by rw [extract_one NS k hlt, hc0]⟩
          have HRes : Hid (resV (Bk.stepR (Bk.nd s) (Bk.ins s) (Bk.off s) E.toList) = .tuple #[bv (Bk.nd u) (Bk.ins u) (Bk.off u), .bool true]) := by unfold Hid; rw [hE, Bk.stepR_some (Bk.stOf_st hs5), hst]; rfl
          have HEz : Hid (E.size ≤ maxLen) := by unfold Hid; rw [← str_len', hE]; simp [maxLen]
          have HU : Hid (u < 5 ∧ u = Bk.go s c0) := ⟨hgo, hu⟩
          clear hst hgo hu hE

          clear hc0 
          have k0 : (0 : Int) ≤ (k : Int) + 1 := by omega
          have k2 : (k : Int) + 1 ≤ NS.size := by omega
          have w1' : IntKind.i64.wrap ((k : Int) + 1) = (k : Int) + 1 := IntWalk.i64_in _ (by omega)
          obtain ⟨b0, b1, b2, _, _, _⟩ := HR.out
          have e0 : ∀ o', (wr.drew.alloc o').cell? ⟨w1.heap.size, 0, none⟩ = some (.int .i64 (Bk.nd s)) := fun o' => (HR.out.drew.alloc o').1
          have e1 : ∀ o', (wr.drew.alloc o').cell? ⟨w1.heap.size, 1, none⟩ = some (.bool (Bk.ins s)) := fun o' => (HR.out.drew.alloc o').2.1
          have e2 : ∀ o', (wr.drew.alloc o').cell? ⟨w1.heap.size, 2, none⟩ = some (.bool (Bk.off s)) := fun o' => (HR.out.drew.alloc o').2.2.1
          have hlt2 : w1.heap.size < wr.heap.size := HR.out.lt
          have hne2 : ¬ w1.heap.size = wr.heap.size := by omega
          go_wp2_with fail
          go_region_with (first | (go_at_call 32; refine (implBlockStep_any _ _ _ E _ HEz.out).mono ?_; rintro e w3 ⟨rfl, hb3⟩; rw [HRes.out]; have HR3 : Hid (Room w3 w1.heap.size (.int .i64 (Bk.nd s)) (.bool (Bk.ins s)) (.bool (Bk.off s))) := (by first | exact HR.out.drew.later hb3 | exact (HR.out.drew.alloc _).later hb3); have Hb3 : Hid (Below w.heap.size w w3) := (by first | exact below_seq Hb.out.drew hb3 | exact below_seq (Hb.out.drew.alloc Hb.out.size _) hb3); (try (have HNx : Hid (Room w3 wr.heap.size (.int .i64 0) (.bool false) (.bool false)) := (by exact (room_new _ _ _ _ _).later hb3); obtain ⟨x0, x1, x2, v0, v1, v2⟩ := HNx.out)); clear hb3 b0 b1 b2 e0 e1 e2))
          all_goals (try clear w1' hsl)
          all_goals go_wp2_with fail
          all_goals first
            | (have HX4 : Hid (Room (((w3.setCell ⟨wr.heap.size, 0, none⟩ (.int .i64 (Bk.nd u))).setCell ⟨wr.heap.size, 1, none⟩ (.bool (Bk.ins u))).setCell ⟨wr.heap.size, 2, none⟩ (.bool (Bk.off u))) wr.heap.size (.int .i64 (Bk.nd u)) (.bool (Bk.ins u)) (.bool (Bk.off u))) := HNx.out.set3 (.int .i64 (Bk.nd u)) (.bool (Bk.ins u)) (.bool (Bk.off u))
               have HR4 : Hid (Room (((w3.setCell ⟨wr.heap.size, 0, none⟩ (.int .i64 (Bk.nd u))).setCell ⟨wr.heap.size, 1, none⟩ (.bool (Bk.ins u))).setCell ⟨wr.heap.size, 2, none⟩ (.bool (Bk.off u))) w1.heap.size (.int .i64 (Bk.nd s)) (.bool (Bk.ins s)) (.bool (Bk.off s))) := Room.far3 HR3.out hne2 (.int .i64 (Bk.nd u)) (.bool (Bk.ins u)) (.bool (Bk.off u))
               have Hb4 : Hid (Below w.heap.size w (((w3.setCell ⟨wr.heap.size, 0, none⟩ (.int .i64 (Bk.nd u))).setCell ⟨wr.heap.size, 1, none⟩ (.bool (Bk.ins u))).setCell ⟨wr.heap.size, 2, none⟩ (.bool (Bk.off u)))) := Hb3.out.grown (gw_set3 w3 wr.heap.size (.int .i64 (Bk.nd u)) (.bool (Bk.ins u)) (.bool (Bk.off u))) Hb3.out.size (fun r h => by cases h; exact Hb.out.size)
               generalize (((w3.setCell ⟨wr.heap.size, 0, none⟩ (.int .i64 (Bk.nd u))).setCell ⟨wr.heap.size, 1, none⟩ (.bool (Bk.ins u))).setCell ⟨wr.heap.size, 2, none⟩ (.bool (Bk.off u))) = W4 at HX4 HR4 Hb4 ⊢
               generalize wr.heap.size = X4 at HX4 ⊢)
            | (have HX4 := Lib.hid (room_alloc w3 (.int .i64 (Bk.nd u)) (.bool (Bk.ins u)) (.bool (Bk.off u)) 34)
               have HR4 := Lib.hid (HR3.out.alloc (.cells #[.int .i64 (Bk.nd u), .bool (Bk.ins u), .bool (Bk.off u)] 34))
               have Hb4 := Lib.hid (Hb3.out.alloc Hb3.out.size (.cells #[.int .i64 (Bk.nd u), .bool (Bk.ins u), .bool (Bk.off u)] 34))
               generalize w3.alloc (.cells #[.int .i64 (Bk.nd u), .bool (Bk.ins u), .bool (Bk.off u)] 34) = W4 at HX4 HR4 Hb4 ⊢
               generalize w3.heap.size = X4 at HX4 ⊢)
          all_goals clear HR Hb HR3 Hb3 hlt2 hne2
          all_goals have hk1 := HK.out
          all_goals subst hk1

          all_goals go_wp2_with fail
          all_goals go_quiet (fail)
          all_goals go_wp2_with fail
          all_goals go_roundw
          all_goals first
            | (simp [intOf]; omega)
            | exact ⟨0 + 1, by omega, rfl, HR4.out, Hb4.out.drewN _⟩
            | exact ⟨0 + 1, by omega, rfl, HR4.out, below_drewN Hb4.out _⟩
        · have HK : Hid (k = 1) := h
          have hlt : k < NS.size := by omega
          have hz12 : 1 < NS.size := by omega
          clear h
          have hbt : (NS[k]'hlt).toNat < 256 := (NS[k]'hlt).toNat_lt
          obtain ⟨c0, hc0⟩ : ∃ c0, c0 = (NS[k]'hlt) := ⟨_, rfl⟩
          have HC : Hid ((Bk.nl s)[k]? = some c0) := by unfold Hid; rw [← HLL.out, hc0]; exact str_at' NS k hlt
          obtain ⟨hst, hgo⟩ := Bk.nl_step hs5 (List.mem_of_getElem? HC.out)
          obtain ⟨u, hu⟩ : ∃ u, u = Bk.go s c0 := ⟨_, rfl⟩
          rw [← hu] at hst hgo
          obtain ⟨E, hsl, hE⟩ : ∃ E : ByteArray, (∀ W : World, (Instr.slice 9 (.string NS) (some (.int .i64 (k : Int))) (some (.int .i64 ((k : Int) + 1))) none).run Try.prog W = .ok (.string E) W) ∧ E.toList = [c0] :=
            ⟨_, fun W => slice_one W NS k hlt, by rw [extract_one NS k hlt, hc0]⟩
          have HRes : Hid (resV (Bk.stepR (Bk.nd s) (Bk.ins s) (Bk.off s) E.toList) = .tuple #[bv (Bk.nd u) (Bk.ins u) (Bk.off u), .bool true]) := by unfold Hid; rw [hE, Bk.stepR_some (Bk.stOf_st hs5), hst]; rfl
          have HEz : Hid (E.size ≤ maxLen) := by unfold Hid; rw [← str_len', hE]; simp [maxLen]
          have HU : Hid (u < 5 ∧ u = Bk.go s c0) := ⟨hgo, hu⟩
          clear hst hgo hu hE
          have hz02 : 0 < NS.size := by omega
          have hcmp0 : decide ((NS[1]'hz12).toNat ≤ (NS[0]'hz02).toNat) = false := decide_eq_false (by have := Bk.nl_up hs5 (by rw [← HLL.out]; exact str_at' NS 0 hz02) (by rw [← HLL.out]; exact str_at' NS 1 hz12); omega)
          have HCMP := Lib.hid hcmp0
          clear hcmp0
          clear hc0 h2
          have k0 : (0 : Int) ≤ (k : Int) + 1 := by omega
          have k2 : (k : Int) + 1 ≤ NS.size := by omega
          have w1' : IntKind.i64.wrap ((k : Int) + 1) = (k : Int) + 1 := IntWalk.i64_in _ (by omega)
          obtain ⟨b0, b1, b2, _, _, _⟩ := HR.out
          have e0 : ∀ o', (wr.drew.alloc o').cell? ⟨w1.heap.size, 0, none⟩ = some (.int .i64 (Bk.nd s)) := fun o' => (HR.out.drew.alloc o').1
          have e1 : ∀ o', (wr.drew.alloc o').cell? ⟨w1.heap.size, 1, none⟩ = some (.bool (Bk.ins s)) := fun o' => (HR.out.drew.alloc o').2.1
          have e2 : ∀ o', (wr.drew.alloc o').cell? ⟨w1.heap.size, 2, none⟩ = some (.bool (Bk.off s)) := fun o' => (HR.out.drew.alloc o').2.2.1
          have hlt2 : w1.heap.size < wr.heap.size := HR.out.lt
          have hne2 : ¬ w1.heap.size = wr.heap.size := by omega
          go_wp2_with fail
          go_region_with (first | (go_at_call 32; refine (implBlockStep_any _ _ _ E _ HEz.out).mono ?_; rintro e w3 ⟨rfl, hb3⟩; rw [HRes.out]; have HR3 : Hid (Room w3 w1.heap.size (.int .i64 (Bk.nd s)) (.bool (Bk.ins s)) (.bool (Bk.off s))) := (by first | exact HR.out.drew.later hb3 | exact (HR.out.drew.alloc _).later hb3); have Hb3 : Hid (Below w.heap.size w w3) := (by first | exact below_seq Hb.out.drew hb3 | exact below_seq (Hb.out.drew.alloc Hb.out.size _) hb3); (try (have HNx : Hid (Room w3 wr.heap.size (.int .i64 0) (.bool false) (.bool false)) := (by exact (room_new _ _ _ _ _).later hb3); obtain ⟨x0, x1, x2, v0, v1, v2⟩ := HNx.out)); clear hb3 b0 b1 b2 e0 e1 e2))
          all_goals (try clear w1' hsl)
          all_goals go_wp2_with fail
          all_goals first
            | (have HX4 : Hid (Room (((w3.setCell ⟨wr.heap.size, 0, none⟩ (.int .i64 (Bk.nd u))).setCell ⟨wr.heap.size, 1, none⟩ (.bool (Bk.ins u))).setCell ⟨wr.heap.size, 2, none⟩ (.bool (Bk.off u))) wr.heap.size (.int .i64 (Bk.nd u)) (.bool (Bk.ins u)) (.bool (Bk.off u))) := HNx.out.set3 (.int .i64 (Bk.nd u)) (.bool (Bk.ins u)) (.bool (Bk.off u))
               have HR4 : Hid (Room (((w3.setCell ⟨wr.heap.size, 0, none⟩ (.int .i64 (Bk.nd u))).setCell ⟨wr.heap.size, 1, none⟩ (.bool (Bk.ins u))).setCell ⟨wr.heap.size, 2, none⟩ (.bool (Bk.off u))) w1.heap.size (.int .i64 (Bk.nd s)) (.bool (Bk.ins s)) (.bool (Bk.off s))) := Room.far3 HR3.out hne2 (.int .i64 (Bk.nd u)) (.bool (Bk.ins u)) (.bool (Bk.off u))
               have Hb4 : Hid (Below w.heap.size w (((w3.setCell ⟨wr.heap.size, 0, none⟩ (.int .i64 (Bk.nd u))).setCell ⟨wr.heap.size, 1, none⟩ (.bool (Bk.ins u))).setCell ⟨wr.heap.size, 2, none⟩ (.bool (Bk.off u)))) := Hb3.out.grown (gw_set3 w3 wr.heap.size (.int .i64 (Bk.nd u)) (.bool (Bk.ins u)) (.bool (Bk.off u))) Hb3.out.size (fun r h => by cases h; exact Hb.out.size)
               generalize (((w3.setCell ⟨wr.heap.size, 0, none⟩ (.int .i64 (Bk.nd u))).setCell ⟨wr.heap.size, 1, none⟩ (.bool (Bk.ins u))).setCell ⟨wr.heap.size, 2, none⟩ (.bool (Bk.off u))) = W4 at HX4 HR4 Hb4 ⊢
               generalize wr.heap.size = X4 at HX4 ⊢)
            | (have HX4 := Lib.hid (room_alloc w3 (.int .i64 (Bk.nd u)) (.bool (Bk.ins u)) (.bool (Bk.off u)) 34)
               have HR4 := Lib.hid (HR3.out.alloc (.cells #[.int .i64 (Bk.nd u), .bool (Bk.ins u), .bool (Bk.off u)] 34))
               have Hb4 := Lib.hid (Hb3.out.alloc Hb3.out.size (.cells #[.int .i64 (Bk.nd u), .bool (Bk.ins u), .bool (Bk.off u)] 34))
               generalize w3.alloc (.cells #[.int .i64 (Bk.nd u), .bool (Bk.ins u), .bool (Bk.off u)] 34) = W4 at HX4 HR4 Hb4 ⊢
               generalize w3.heap.size = X4 at HX4 ⊢)
          all_goals clear HR Hb HR3 Hb3 hlt2 hne2
          all_goals have hk1 := HK.out
          all_goals subst hk1
          all_goals have hcmp := HCMP.out
          all_goals have k3 : (1 : Int) < NS.size := by omega
          all_goals go_wp2_with fail
          all_goals go_quiet (fail)
          all_goals go_wp2_with fail
          all_goals go_roundw
          all_goals first
            | (simp [intOf]; omega)
            | exact ⟨1 + 1, by omega, rfl, HR4.out, Hb4.out.drewN _⟩
            | exact ⟨1 + 1, by omega, rfl, HR4.out, below_drewN Hb4.out _⟩
        · obtain rfl : k = NS.size := by omega
          clear h
          obtain ⟨b0, b1, b2, _, _, _⟩ := HR.out
          go_wp2_with fail
          refine (implBlockMany_any _ _ _ _ _).mono ?_
          rintro e w4 ⟨rfl, hb4⟩
          rw [HM1.out]
          have Hb4 := Lib.hid (below_seq Hb.out hb4)
          clear hb4 b0 b1 b2
          go_wp2_with fail
          go_ret
          exact ⟨rfl, Hb4.out⟩
set_option maxRecDepth 100000 in
set_option maxHeartbeats 16000000 in
theorem FnBlockMany_walk (w : World) (A : Option Addr) (n c : Nat) (bs : List UInt8) (hx : RdB w A n bs) (hl : n ≤ c) (hc : c ≤ maxLen) :
    Calls Try.prog 9 #[.slice A n c] w fun e w' => e = .returned (.bool true) ∧ Below w.heap.size w w' := by
  have HX := Lib.hid hx
  have hc' := Lib.hid hc
  clear hx
  unfold maxLen at hc
  by_cases hbig : (1048576 : Int) < n
  · go_enter Try.func9, Try.ntmps9
    go_wp2_with fail
    go_ret
    exact ⟨rfl, Below.refl _ _⟩
  · have hs : (n : Int) ≤ 1048576 := by omega
    clear hbig
    go_enter Try.func9, Try.ntmps9
    go_wp2_with fail
    refine (DrawBlockMany_any _ _ _ bs _ HX.out hl hc'.out).mono ?_
    rintro e w1 ⟨bn, bi, bo, m, rfl, hb1⟩
    have Hb1 := Lib.hid hb1
    clear hb1
    have HR1 := Lib.hid (room_alloc w1 (.int .i64 bn) (.bool bi) (.bool bo) 34)
    have Hba := Lib.hid (Hb1.out.alloc Hb1.out.size (.cells #[.int .i64 bn, .bool bi, .bool bo] 34))
    by_cases hin : (Bk.stOf bn bi bo).isSome = true ∧ 0 ≤ m ∧ m ≤ 30
    · obtain ⟨hsome, h0, h30⟩ := hin
      obtain ⟨s, hst⟩ := Option.isSome_iff_exists.1 hsome
      obtain ⟨hs5, rfl, rfl, rfl⟩ := Bk.stOf_lt hst
      clear hst hsome
      obtain ⟨M, rfl⟩ : ∃ M : Nat, m = M := ⟨m.toNat, by omega⟩
      have hM30 : M ≤ 30 := by omega
      clear h0 h30
      have HO := Lib.hid (Bk.manyR_in (m := M) (Bk.stOf_st hs5) hM30)
      match M, hM30, HO with
      | 0, hM30, HO =>
        go_wp2_with fail
        refine (implBlockMany_any _ _ _ _ _).mono ?_
        rintro e w2 ⟨rfl, hb2⟩
        have HO1 : Hid (Bk.manyR (Bk.nd s) (Bk.ins s) (Bk.off s) 0 = 1) := HO.out
        first | rw [HO1.out] | (simp only [Int.natCast_zero]; rw [HO1.out]) | (simp only [Int.cast_ofNat_Int]; rw [HO1.out])
        have HR2 := Lib.hid (HR1.out.later hb2)
        obtain ⟨b0, b1, b2, _, _, _⟩ := HR2.out
        have Hb2 := Lib.hid (below_seq Hba.out hb2)
        clear hb2
        go_wp2_with fail
        refine (specBlockMany_any _ _ _ _ _).mono ?_
        rintro e w3 ⟨rfl, hb3⟩
        first | rw [HO1.out] | (simp only [Int.natCast_zero]; rw [HO1.out]) | (simp only [Int.cast_ofNat_Int]; rw [HO1.out])
        have Hb3 := Lib.hid (below_seq Hb2.out hb3)
        clear hb3 b0 b1 b2
        go_wp2_with fail
        go_ret
        exact ⟨rfl, Hb3.out⟩
      | N + 1, hM30, HO =>
        obtain ⟨T, hT⟩ : ∃ T, T = Bk.many (N + 1) s := ⟨_, rfl⟩
        have hT1 : 1 ≤ T := by rw [hT]; exact Bk.many_pos _ hs5
        have HTN : Hid (Bk.ns (Bk.many N) s (Bk.nl s).length = T) := by unfold Hid; rw [hT, Bk.many_next hs5]
        have HO1 : Hid (Bk.manyR (Bk.nd s) (Bk.ins s) (Bk.off s) ((N : Int) + 1) = T) := by rw [hT]; have := HO.out; rw [show (((N + 1 : Nat)) : Int) = (N : Int) + 1 by omega] at this; exact this
        rw [show (((N + 1 : Nat)) : Int) = (N : Int) + 1 by omega]
        clear HO hT
        have dT : decide (T < 0) = false := decide_eq_false (by omega)
        have dT1 : decide (1 ≤ T) = true := decide_eq_true (by omega)
        have hm0 : ((N : Int) + 1 == 0) = false := by simp; omega
        obtain ⟨NS, hNS⟩ : ∃ NS, NS = mkS (Bk.nl s) := ⟨_, rfl⟩
        have HNX : Hid (mkS (Bk.next (Bk.nd s) (Bk.ins s) (Bk.off s)) = NS) := by unfold Hid; rw [Bk.next_nl hs5, hNS]
        have HLL : Hid (NS.toList = Bk.nl s) := by unfold Hid; rw [hNS, mkS_toList]
        have HLZ : Hid (NS.size = (Bk.nl s).length) := by unfold Hid; rw [hNS, mkS_size]
        have hz2 : NS.size ≤ 2 := by rw [hNS, mkS_size]; exact (Bk.nl_len hs5).2
        clear hNS
        go_wp2_with fail
        refine (implBlockMany_any _ _ _ _ _).mono ?_
        rintro e w2 ⟨rfl, hb2⟩
        rw [HO1.out]
        have HR2 := Lib.hid (HR1.out.later hb2)
        obtain ⟨b0, b1, b2, _, _, _⟩ := HR2.out
        have Hb2 := Lib.hid (below_seq Hba.out hb2)
        clear hb2
        go_wp2_with fail
        refine (specBlockMany_any _ _ _ _ _).mono ?_
        rintro e w3 ⟨rfl, hb3⟩
        rw [HO1.out]
        have HR3 := Lib.hid (HR2.out.later hb3)
        have Hb3 := Lib.hid (below_seq Hb2.out hb3)
        clear hb3 b0 b1 b2
        obtain ⟨b0, b1, b2, _, _, _⟩ := HR3.out
        go_wp2_with fail
        refine (implBlockNext_any _ _ _ _).mono ?_
        rintro e w4 ⟨rfl, hb4⟩
        rw [HNX.out]
        have HR4 := Lib.hid (HR3.out.later hb4)
        have Hb4 := Lib.hid (below_seq Hb3.out hb4)
        clear hb4 b0 b1 b2
        go_wp2_with fail
        go_loopw [8, 9] (fun v x wr => ∃ (k : Nat) (t : Int), k ≤ NS.size ∧ x = .int .i64 k ∧ v = .int .i64 t ∧ Hid (t = Bk.ns (Bk.many N) s k) ∧ Hid (Room wr w1.heap.size (.int .i64 (Bk.nd s)) (.bool (Bk.ins s)) (.bool (Bk.off s))) ∧ Hid (Below w.heap.size w wr)) (fun _ x _ => NS.size - (intOf x).toNat)
        case atStart => exact ⟨0, 0, by omega, rfl, rfl, rfl, HR4, Hb4⟩
        case round =>
          clear HR1 Hba Hb1 HR2 Hb2 HR3 Hb3 HR4 Hb4
          obtain ⟨k, t, hk, rfl, rfl, Ht, HR, Hb⟩ := hrel
          by_cases hlt : k < NS.size
          · obtain ⟨t0, t1⟩ : 0 ≤ t ∧ t ≤ 1073741824 * k := by rw [Ht.out]; exact Bk.ns_bd (fun x => Bk.many_small (by omega)) s k (by omega)
            have hbt : (NS[k]'hlt).toNat < 256 := (NS[k]'hlt).toNat_lt
            obtain ⟨c0, hc0⟩ : ∃ c0, c0 = (NS[k]'hlt) := ⟨_, rfl⟩
            have HC : Hid ((Bk.nl s)[k]? = some c0) := by unfold Hid; rw [← HLL.out, hc0]; exact str_at' NS k hlt
            obtain ⟨hst, hgo⟩ := Bk.nl_step hs5 (List.mem_of_getElem? HC.out)
            obtain ⟨u, hu⟩ : ∃ u, u = Bk.go s c0 := ⟨_, rfl⟩
            rw [← hu] at hst hgo
            obtain ⟨E, hsl, hE⟩ : ∃ E : ByteArray, (∀ W : World, (Instr.slice 9 (.string NS) (some (.int .i64 (k : Int))) (some (.int .i64 ((k : Int) + 1))) none).run Try.prog W = .ok (.string E) W) ∧ E.toList = [c0] :=
              ⟨_, fun W => slice_one W NS k hlt, by rw [extract_one NS k hlt, hc0]⟩
            have HRes : Hid (resV (Bk.stepR (Bk.nd s) (Bk.ins s) (Bk.off s) E.toList) = .tuple #[bv (Bk.nd u) (Bk.ins u) (Bk.off u), .bool true]) := by unfold Hid; rw [hE, Bk.stepR_some (Bk.stOf_st hs5), hst]; rfl
            have HEz : Hid (E.size ≤ maxLen) := by unfold Hid; rw [← str_len', hE]; simp [maxLen]
            have HU : Hid (u < 5 ∧ u = Bk.go s c0) := ⟨hgo, hu⟩
            clear hst hgo hu hE
            obtain ⟨z0, z1⟩ := Bk.many_small (n := N) (s := u) (by omega)
            have HT2 : Hid (t + Bk.many N u = Bk.ns (Bk.many N) s (k + 1)) := by unfold Hid; rw [Bk.ns_next _ HC.out, ← HU.out.2, ← Ht.out]
            have HMU : Hid (Bk.manyR (Bk.nd u) (Bk.ins u) (Bk.off u) (N : Int) = Bk.many N u) := Bk.manyR_in (Bk.stOf_st HU.out.1) (by omega)
            have k0 : (0 : Int) ≤ (k : Int) + 1 := by omega
            have k2 : (k : Int) + 1 ≤ NS.size := by omega
            have w1' : IntKind.i64.wrap ((k : Int) + 1) = (k : Int) + 1 := IntWalk.i64_in _ (by omega)
            generalize Bk.many N u = z at z0 z1 HT2 HMU
            have hwr := i64w (x := t + z) (by omega) (by omega)
            clear hc0
            obtain ⟨b0, b1, b2, _, _, _⟩ := HR.out
            have e0 : ∀ o', (wr.drew.alloc o').cell? ⟨w1.heap.size, 0, none⟩ = some (.int .i64 (Bk.nd s)) := fun o' => (HR.out.drew.alloc o').1
            have e1 : ∀ o', (wr.drew.alloc o').cell? ⟨w1.heap.size, 1, none⟩ = some (.bool (Bk.ins s)) := fun o' => (HR.out.drew.alloc o').2.1
            have e2 : ∀ o', (wr.drew.alloc o').cell? ⟨w1.heap.size, 2, none⟩ = some (.bool (Bk.off s)) := fun o' => (HR.out.drew.alloc o').2.2.1
            have hlt2 : w1.heap.size < wr.heap.size := HR.out.lt
            have hne2 : ¬ w1.heap.size = wr.heap.size := by omega
            go_wp2_with fail
            go_region_with (first | (go_at_call 32; refine (implBlockStep_any _ _ _ E _ HEz.out).mono ?_; rintro e w3 ⟨rfl, hb3⟩; rw [HRes.out]; have HR3 : Hid (Room w3 w1.heap.size (.int .i64 (Bk.nd s)) (.bool (Bk.ins s)) (.bool (Bk.off s))) := (by first | exact HR.out.drew.later hb3 | exact (HR.out.drew.alloc _).later hb3); have Hb3 : Hid (Below w.heap.size w w3) := (by first | exact below_seq Hb.out.drew hb3 | exact below_seq (Hb.out.drew.alloc Hb.out.size _) hb3); (try (have HNx : Hid (Room w3 wr.heap.size (.int .i64 0) (.bool false) (.bool false)) := (by exact (room_new _ _ _ _ _).later hb3); obtain ⟨x0, x1, x2, v0, v1, v2⟩ := HNx.out)); clear hb3 b0 b1 b2 e0 e1 e2))
            all_goals (try clear w1' hsl)
            all_goals go_wp2_with fail
            all_goals first
              | (have HX4 : Hid (Room (((w3.setCell ⟨wr.heap.size, 0, none⟩ (.int .i64 (Bk.nd u))).setCell ⟨wr.heap.size, 1, none⟩ (.bool (Bk.ins u))).setCell ⟨wr.heap.size, 2, none⟩ (.bool (Bk.off u))) wr.heap.size (.int .i64 (Bk.nd u)) (.bool (Bk.ins u)) (.bool (Bk.off u))) := HNx.out.set3 (.int .i64 (Bk.nd u)) (.bool (Bk.ins u)) (.bool (Bk.off u))
                 have HR4 : Hid (Room (((w3.setCell ⟨wr.heap.size, 0, none⟩ (.int .i64 (Bk.nd u))).setCell ⟨wr.heap.size, 1, none⟩ (.bool (Bk.ins u))).setCell ⟨wr.heap.size, 2, none⟩ (.bool (Bk.off u))) w1.heap.size (.int .i64 (Bk.nd s)) (.bool (Bk.ins s)) (.bool (Bk.off s))) := Room.far3 HR3.out hne2 (.int .i64 (Bk.nd u)) (.bool (Bk.ins u)) (.bool (Bk.off u))
                 have Hb4 : Hid (Below w.heap.size w (((w3.setCell ⟨wr.heap.size, 0, none⟩ (.int .i64 (Bk.nd u))).setCell ⟨wr.heap.size, 1, none⟩ (.bool (Bk.ins u))).setCell ⟨wr.heap.size, 2, none⟩ (.bool (Bk.off u)))) := Hb3.out.grown (gw_set3 w3 wr.heap.size (.int .i64 (Bk.nd u)) (.bool (Bk.ins u)) (.bool (Bk.off u))) Hb3.out.size (fun r h => by cases h; exact Hb.out.size)
                 generalize (((w3.setCell ⟨wr.heap.size, 0, none⟩ (.int .i64 (Bk.nd u))).setCell ⟨wr.heap.size, 1, none⟩ (.bool (Bk.ins u))).setCell ⟨wr.heap.size, 2, none⟩ (.bool (Bk.off u))) = W4 at HX4 HR4 Hb4 ⊢
                 generalize wr.heap.size = X4 at HX4 ⊢)
              | (have HX4 := Lib.hid (room_alloc w3 (.int .i64 (Bk.nd u)) (.bool (Bk.ins u)) (.bool (Bk.off u)) 34)
                 have HR4 := Lib.hid (HR3.out.alloc (.cells #[.int .i64 (Bk.nd u), .bool (Bk.ins u), .bool (Bk.off u)] 34))
                 have Hb4 := Lib.hid (Hb3.out.alloc Hb3.out.size (.cells #[.int .i64 (Bk.nd u), .bool (Bk.ins u), .bool (Bk.off u)] 34))
                 generalize w3.alloc (.cells #[.int .i64 (Bk.nd u), .bool (Bk.ins u), .bool (Bk.off u)] 34) = W4 at HX4 HR4 Hb4 ⊢
                 generalize w3.heap.size = X4 at HX4 ⊢)
            all_goals clear HR Hb HR3 Hb3 hlt2 hne2
            all_goals obtain ⟨c0', c1', c2', _, _, _⟩ := HX4.out
            all_goals go_wp2_with fail
            all_goals refine (implBlockMany_any _ _ _ _ _).mono ?_
            all_goals rintro e w5 ⟨rfl, hb5⟩
            all_goals rw [HMU.out]
            all_goals have HR5 := Lib.hid (HR4.out.later hb5)
            all_goals have Hb5 := Lib.hid (below_seq Hb4.out hb5)
            all_goals clear hb5 c0' c1' c2' HX4 HR4 Hb4
            all_goals go_wp2_with fail
            all_goals go_roundw
            all_goals first
              | (simp [intOf]; omega)
              | exact ⟨k + 1, t + z, by omega, by go_num, rfl, HT2, HR5, Hb5⟩
          · have HE : Hid (t = T) := by unfold Hid; rw [Ht.out, ← HTN.out, show k = (Bk.nl s).length by have := HLZ.out; omega]
            have hE := HE.out
            clear Ht HTN
            subst hE
            go_wp2_with fail
            go_ret
            exact ⟨rfl, Hb.out⟩
    · have HO : Hid (Bk.manyR bn bi bo m = -1) := by
        unfold Hid
        by_cases h : 0 ≤ m ∧ m ≤ 30
        · cases hst : Bk.stOf bn bi bo with
          | none => exact Bk.manyR_none hst m
          | some s => exact absurd ⟨by rw [hst]; rfl, h.1, h.2⟩ hin
        · exact Bk.manyR_out h bn bi bo
      clear hin
      go_wp2_with fail
      refine (implBlockMany_any _ _ _ _ _).mono ?_
      rintro e w2 ⟨rfl, hb2⟩
      rw [HO.out]
      have HR2 := Lib.hid (HR1.out.later hb2)
      obtain ⟨b0, b1, b2, _, _, _⟩ := HR2.out
      have Hb2 := Lib.hid (below_seq Hba.out hb2)
      clear hb2
      go_wp2_with fail
      refine (specBlockMany_any _ _ _ _ _).mono ?_
      rintro e w3 ⟨rfl, hb3⟩
      rw [HO.out]
      have Hb3 := Lib.hid (below_seq Hb2.out hb3)
      clear hb3 b0 b1 b2
      go_wp2_with fail
      go_ret
      exact ⟨rfl, Hb3.out⟩
end Go.Proofs.Ytlneedjhdnjnpaa
