/-
  Contracts: l3Way and BlockWay of the reference.
  Conditions: none.
-/
import Derived.Test.YtlneedjhdnjnpaaWayPlain
import Derived.Test.YtlneedjhdnjnpaaStrs
namespace Go.Proofs.Ytlneedjhdnjnpaa
open Go.RowKit
set_option linter.unusedVariables false
attribute [local go_sem ↓] Go.wp_at_zero Go.wp_at_succ run_eql_block run_neq_block

/-- A text that may be none, as two results. -/
def wayV (r : Option (List UInt8)) : Value := .tuple #[.string (mkS (r.getD [])), .bool r.isSome]
theorem room_al (w : World) (v0 v1 v2 : Value) (t : TypeId) : Room (w.alloc (.cells #[v0, v1, v2] t)) w.heap.size v0 v1 v2 := by
  refine ⟨?_, ?_, ?_, ?_, ?_, ?_⟩ <;> simp [go_sem]
theorem ret_strb2 {a b : ByteArray} {c d : Bool} (h : a = b) (h2 : c = d) : Ending.returned (.tuple #[.string a, .bool c]) = .returned (.tuple #[.string b, .bool d]) := by rw [h, h2]
set_option maxRecDepth 100000 in
set_option maxHeartbeats 1000000 in
theorem l3Way_zero (s t : Nat) (w : World) (hs5 : s < 5) (ht5 : t < 5) :
    Calls Try.prog 74 #[bv (Bk.nd s) (Bk.ins s) (Bk.off s), bv (Bk.nd t) (Bk.ins t) (Bk.off t), .int .i64 0] w fun e w' => e = .returned (wayV (Bk.wayN t 0 s)) ∧ Below w.heap.size w w' := by
  have HE := Lib.hid (Bk.st_eq hs5 ht5)
  have HV : Hid (wayV (Bk.wayN t 0 s) = .tuple #[.string ⟨#[]⟩, .bool (s == t)]) := by
    unfold Hid
    simp only [Bk.wayN]
    by_cases e : s = t
    · rw [if_pos e]; simp [wayV, e]; rfl
    · rw [if_neg e]; simp [wayV, e]; rfl
  go_enter Try.func74, Try.ntmps74
  go_wp2_with fail
  go_quiet (fail)
  go_wp2_with fail
  go_ret2
  refine ⟨by rw [HV.out]; exact ret_strb2 rfl HE.out, below_drewN ?_ _⟩
  exact ((Below.refl w.heap.size w).alloc (Nat.le_refl _) _).alloc (by simp) _
set_option maxRecDepth 100000 in
set_option maxHeartbeats 16000000 in
theorem l3Way_any (t : Nat) (ht5 : t < 5) : ∀ (n : Nat), n ≤ 10 → ∀ (s : Nat) (w : World), s < 5 →
    Calls Try.prog 74 #[bv (Bk.nd s) (Bk.ins s) (Bk.off s), bv (Bk.nd t) (Bk.ins t) (Bk.off t), .int .i64 n] w fun e w' => e = .returned (wayV (Bk.wayN t n s)) ∧ Below w.heap.size w w' := by
  intro n
  induction n with
  | zero => exact fun _ s w hs => l3Way_zero s t w hs ht5
  | succ n ih0 =>
    intro hn s w hs5
    have ih := ih0 (by omega)
    rw [show (((n + 1 : Nat)) : Int) = (n : Int) + 1 by omega]
    have hn0 : ((n : Int) + 1 == 0) = false := by simp; omega
    have HNL := Lib.hid (Bk.next_nl hs5)
    obtain ⟨LS, hLS⟩ : ∃ LS, LS = mkS (Bk.nl s) := ⟨_, rfl⟩
    have HLS := Lib.hid hLS
    have HLL : Hid (LS.toList = Bk.nl s) := by unfold Hid; rw [hLS, mkS_toList]
    have hlz : LS.size ≤ 2 := by rw [hLS, mkS_size]; exact (Bk.nl_len hs5).2
    clear hLS
    go_enter Try.func74, Try.ntmps74
    go_wp2_with fail
    refine (specBlockNext_any _ _ _ _).mono ?_
    rintro e w1 ⟨rfl, hb1⟩
    rw [HNL.out, ← HLS.out]
    have HA1 : Hid (Room w1 w.heap.size (.int .i64 (Bk.nd s)) (.bool (Bk.ins s)) (.bool (Bk.off s))) := ((room_al w _ _ _ _).alloc _).later hb1
    have HB1 : Hid (Room w1 (w.heap.size + 1) (.int .i64 (Bk.nd t)) (.bool (Bk.ins t)) (.bool (Bk.off t))) := Room.later (by have := room_al (w.alloc (.cells #[.int .i64 (Bk.nd s), .bool (Bk.ins s), .bool (Bk.off s)] 34)) (.int .i64 (Bk.nd t)) (.bool (Bk.ins t)) (.bool (Bk.off t)) 34; simpa using this) hb1
    have Hb1 : Hid (Below w.heap.size w w1) := below_seq (((Below.refl w.heap.size w).alloc (Nat.le_refl _) _).alloc (by simp) _) hb1
    clear hb1
    go_wp2_with fail
    go_loopw [9] (fun j wr => ∃ k : Nat, k ≤ LS.size ∧ j = .int .i64 k ∧ Hid (∀ d ∈ (Bk.nl s).take k, Bk.wtry t n s d = none) ∧ Hid (Room wr w.heap.size (.int .i64 (Bk.nd s)) (.bool (Bk.ins s)) (.bool (Bk.off s))) ∧ Hid (Room wr (w.heap.size + 1) (.int .i64 (Bk.nd t)) (.bool (Bk.ins t)) (.bool (Bk.off t))) ∧ Hid (Below w.heap.size w wr)) (fun j _ => LS.size - (intOf j).toNat)
    case atStart => exact ⟨0, by omega, rfl, by simp [Hid], HA1, HB1, Hb1⟩
    case round =>
      clear HA1 HB1 Hb1
      obtain ⟨k, hk, rfl, HK, HA, HB, Hbw⟩ := hrel
      by_cases hlt : k < LS.size
      · have hbt : (LS[k]'hlt).toNat < 256 := (LS[k]'hlt).toNat_lt
        obtain ⟨c, hc⟩ : ∃ c, c = (LS[k]'hlt) := ⟨_, rfl⟩
        have HC : Hid ((Bk.nl s)[k]? = some c) := by unfold Hid; rw [← HLL.out, hc]; exact str_at' LS k hlt
        obtain ⟨hst, hgo⟩ := Bk.nl_step hs5 (List.mem_of_getElem? HC.out)
        have HRes : Hid (resV (Bk.step s (LS[k]'hlt).toNat) = .tuple #[bv (Bk.nd (Bk.go s c)) (Bk.ins (Bk.go s c)) (Bk.off (Bk.go s c)), .bool true]) := by unfold Hid; rw [← hc, hst]; rfl
        have HCE := Lib.hid hc
        clear hst hc
        obtain ⟨b0, b1, b2, _, _, _⟩ := HA.out
        have hlt2 : w.heap.size + 1 < wr.heap.size := HB.out.lt
        have hne2 : ¬ w.heap.size = wr.heap.size := by omega
        have hne3 : ¬ w.heap.size + 1 = wr.heap.size := by omega
        have hlt3 : w.heap.size < wr.heap.size := by omega
        have e0 : ∀ o', (wr.drew.alloc o').cell? ⟨w.heap.size, 0, none⟩ = some (.int .i64 (Bk.nd s)) := fun o' => (HA.out.drew.alloc o').1
        have e1 : ∀ o', (wr.drew.alloc o').cell? ⟨w.heap.size, 1, none⟩ = some (.bool (Bk.ins s)) := fun o' => (HA.out.drew.alloc o').2.1
        have e2 : ∀ o', (wr.drew.alloc o').cell? ⟨w.heap.size, 2, none⟩ = some (.bool (Bk.off s)) := fun o' => (HA.out.drew.alloc o').2.2.1
        have k0 : (0 : Int) ≤ k := by omega
        have k1 : (k : Int) < LS.size := by omega
        cases hw : Bk.wayN t n (Bk.go s c) with
        | none =>
          have HR : Hid (wayV (Bk.wayN t n (Bk.go s c)) = .tuple #[.string ⟨#[]⟩, .bool false]) := by unfold Hid; rw [hw]; rfl
          have HK2 : Hid (∀ d ∈ (Bk.nl s).take (k + 1), Bk.wtry t n s d = none) := by
            intro d hd
            rw [take_snoc HC.out, List.mem_append] at hd
            rcases hd with h | h
            · exact HK.out d h
            · simp at h; subst h; unfold Bk.wtry; rw [hw]; rfl
          clear hw
          go_wp2_with fail
          go_region_with (first | (go_at_call 67; refine (l3Step_any s _ _ hs5 (by assumption)).mono ?_; rintro e w3 ⟨rfl, hb3⟩; rw [HRes.out]; have HA3 : Hid (Room w3 w.heap.size (.int .i64 (Bk.nd s)) (.bool (Bk.ins s)) (.bool (Bk.off s))) := (by first | exact HA.out.drew.later hb3 | exact (HA.out.drew.alloc _).later hb3); have HB3 : Hid (Room w3 (w.heap.size + 1) (.int .i64 (Bk.nd t)) (.bool (Bk.ins t)) (.bool (Bk.off t))) := (by first | exact HB.out.drew.later hb3 | exact (HB.out.drew.alloc _).later hb3); obtain ⟨x0, x1, x2, y0, y1, y2⟩ := HA3.out; obtain ⟨q0, q1, q2, g0, g1, g2⟩ := HB3.out; have hlt4 : w.heap.size + 1 < w3.heap.size := HB3.out.lt; have hlt5 : w.heap.size < w3.heap.size := (by omega); have hne4 : ¬ w.heap.size = w3.heap.size := (by omega); have hne5 : ¬ w.heap.size + 1 = w3.heap.size := (by omega); have Hb4 : Hid (Below w.heap.size w w3) := (by first | exact below_seq Hbw.out.drew hb3 | exact below_seq (Hbw.out.drew.alloc (by simp only [World.size_drew]; omega) _) hb3); (try (have HNx : Hid (Room w3 wr.heap.size (.int .i64 0) (.bool false) (.bool false)) := (by exact (room_new _ _ _ _ _).later hb3); obtain ⟨z0, z1, z2, v0, v1, v2⟩ := HNx.out)); clear hb3 b0 b1 b2 e0 e1 e2))
          all_goals go_wp2_with fail
          all_goals refine (ih (Bk.go s c) _ hgo).mono ?_
          all_goals rintro e w5 ⟨rfl, hb5⟩
          all_goals rw [HR.out]
          all_goals have HA5 : Hid (Room w5 w.heap.size (.int .i64 (Bk.nd s)) (.bool (Bk.ins s)) (.bool (Bk.off s))) := (by first | exact (HA3.out.alloc _).later hb5 | exact (Room.far3 HA3.out (by omega) _ _ _).later hb5)
          all_goals have HB5 : Hid (Room w5 (w.heap.size + 1) (.int .i64 (Bk.nd t)) (.bool (Bk.ins t)) (.bool (Bk.off t))) := (by first | exact (HB3.out.alloc _).later hb5 | exact (Room.far3 HB3.out (by omega) _ _ _).later hb5)
          all_goals have Hb5 : Hid (Below w.heap.size w w5) := (by have hb4 := Hb4.out; first | exact below_seq (Hb4.out.alloc Hb4.out.size _) hb5 | exact below_seq (by go_grown) hb5)
          all_goals clear hb5
          all_goals go_wp2_with fail
          all_goals go_round
          all_goals first
            | (simp [intOf]; omega)
            | exact ⟨k + 1, by omega, by go_num, HK2, HA5, HB5, Hb5⟩
        | some r =>
          have HR : Hid (wayV (Bk.wayN t n (Bk.go s c)) = .tuple #[.string (mkS r), .bool true]) := by unfold Hid; rw [hw]; rfl
          have HV : Hid (wayV (Bk.wayN t (n + 1) s) = .tuple #[.string (mkS (c :: r)), .bool true]) := by unfold Hid; rw [Bk.way_hit HC.out HK.out hw]; rfl
          have hrl : r.length ≤ 10 := by have := Bk.wayN_len t n _ hw; omega
          have hsl : ∀ W : World, (Instr.slice 9 (.string LS) (some (.int .i64 (k : Int))) (some (.int .i64 ((k : Int) + 1))) none).run Try.prog W = .ok (.string (LS.extract k (k + 1))) W := fun W => slice_one W LS k hlt
          have hadd : ∀ W : World, (Op.stringOp .add (LS.extract k (k + 1)) (mkS r)).run Try.prog W = .ok (.string (mkS (c :: r))) W := by
            intro W
            have h1 : (LS.extract k (k + 1)).size = 1 := by rw [← str_len', extract_one LS k hlt]; rfl
            rw [run_string_add_sum W _ _ (by rw [h1, mkS_size]; omega)]
            rw [mkS_eq (s := LS.extract k (k + 1) ++ mkS r) (l := c :: r) (by rw [append_toList, mkS_toList, extract_one LS k hlt, HCE.out]; rfl)]
          clear hw
          go_wp2_with fail
          go_region_with (first | (go_at_call 67; refine (l3Step_any s _ _ hs5 (by assumption)).mono ?_; rintro e w3 ⟨rfl, hb3⟩; rw [HRes.out]; have HA3 : Hid (Room w3 w.heap.size (.int .i64 (Bk.nd s)) (.bool (Bk.ins s)) (.bool (Bk.off s))) := (by first | exact HA.out.drew.later hb3 | exact (HA.out.drew.alloc _).later hb3); have HB3 : Hid (Room w3 (w.heap.size + 1) (.int .i64 (Bk.nd t)) (.bool (Bk.ins t)) (.bool (Bk.off t))) := (by first | exact HB.out.drew.later hb3 | exact (HB.out.drew.alloc _).later hb3); obtain ⟨x0, x1, x2, y0, y1, y2⟩ := HA3.out; obtain ⟨q0, q1, q2, g0, g1, g2⟩ := HB3.out; have hlt4 : w.heap.size + 1 < w3.heap.size := HB3.out.lt; have hlt5 : w.heap.size < w3.heap.size := (by omega); have hne4 : ¬ w.heap.size = w3.heap.size := (by omega); have hne5 : ¬ w.heap.size + 1 = w3.heap.size := (by omega); have Hb4 : Hid (Below w.heap.size w w3) := (by first | exact below_seq Hbw.out.drew hb3 | exact below_seq (Hbw.out.drew.alloc (by simp only [World.size_drew]; omega) _) hb3); (try (have HNx : Hid (Room w3 wr.heap.size (.int .i64 0) (.bool false) (.bool false)) := (by exact (room_new _ _ _ _ _).later hb3); obtain ⟨z0, z1, z2, v0, v1, v2⟩ := HNx.out)); clear hb3 b0 b1 b2 e0 e1 e2))
          all_goals go_wp2_with fail
          all_goals refine (ih (Bk.go s c) _ hgo).mono ?_
          all_goals rintro e w5 ⟨rfl, hb5⟩
          all_goals rw [HR.out]
          all_goals have HA5 : Hid (Room w5 w.heap.size (.int .i64 (Bk.nd s)) (.bool (Bk.ins s)) (.bool (Bk.off s))) := (by first | exact (HA3.out.alloc _).later hb5 | exact (Room.far3 HA3.out (by omega) _ _ _).later hb5)
          all_goals have HB5 : Hid (Room w5 (w.heap.size + 1) (.int .i64 (Bk.nd t)) (.bool (Bk.ins t)) (.bool (Bk.off t))) := (by first | exact (HB3.out.alloc _).later hb5 | exact (Room.far3 HB3.out (by omega) _ _ _).later hb5)
          all_goals have Hb5 : Hid (Below w.heap.size w w5) := (by have hb4 := Hb4.out; first | exact below_seq (Hb4.out.alloc Hb4.out.size _) hb5 | exact below_seq (by go_grown) hb5)
          all_goals clear hb5
          all_goals go_wp2_with fail
          all_goals go_ret2
          all_goals exact ⟨by rw [HV.out]; exact ret_strb2 rfl rfl, Hb5.out⟩
      · have HV : Hid (wayV (Bk.wayN t (n + 1) s) = .tuple #[.string ⟨#[]⟩, .bool false]) := by
          unfold Hid
          rw [Bk.way_miss (fun d hd => HK.out d (by rw [List.take_of_length_le (by rw [← HLL.out, str_len']; omega)]; exact hd))]
          rfl
        go_wp2_with fail
        go_ret2
        exact ⟨by rw [HV.out]; exact ret_strb2 rfl rfl, Hbw.out⟩
end Go.Proofs.Ytlneedjhdnjnpaa
