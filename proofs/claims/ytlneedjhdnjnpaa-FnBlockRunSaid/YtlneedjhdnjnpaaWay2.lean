/-
  Contracts: isReached and BlockWay of the program.
  Conditions: none.
-/
import Derived.Test.YtlneedjhdnjnpaaWayPlain
import Derived.Test.YtlneedjhdnjnpaaWay1
import Derived.Test.YtlneedjhdnjnpaaBlkC
import Derived.Maps.AppendAt
namespace Go.Proofs.Ytlneedjhdnjnpaa
open Go.RowKit
set_option linter.unusedVariables false
attribute [local go_sem ↓] Go.wp_at_zero Go.wp_at_succ run_eql_block run_neq_block

/-- A reached block as cells. -/
def enc4 (p : Nat × List UInt8) : List Value := [.int .i64 (Bk.nd p.1), .bool (Bk.ins p.1), .bool (Bk.off p.1), .string (mkS p.2)]
def encR (all : List (Nat × List UInt8)) : List Value := all.flatMap enc4
theorem encR_len (all : List (Nat × List UInt8)) : (encR all).length = all.length * 4 := by
  unfold encR
  induction all with
  | nil => rfl
  | cons p ps ih => rw [List.flatMap_cons, List.length_append, ih]; simp [enc4]; omega
theorem encR_append (all : List (Nat × List UInt8)) (p : Nat × List UInt8) : encR (all ++ [p]) = encR all ++ enc4 p := by simp [encR]
theorem encR_at : ∀ {all : List (Nat × List UInt8)} {k : Nat} {p : Nat × List UInt8}, all[k]? = some p → ∀ j u, (enc4 p)[j]? = some u → (encR all)[k * 4 + j]? = some u
  | [], k, p, h, j, u, hu => by simp at h
  | q :: qs, 0, p, h, j, u, hu => by
    simp at h
    subst h
    have hj : j < 4 := by
      have := (List.getElem?_eq_some_iff.1 hu).1
      simpa [enc4] using this
    show (encR (q :: qs))[0 * 4 + j]? = some u
    unfold encR
    rw [List.flatMap_cons, List.getElem?_append_left (by simp [enc4]; omega), Nat.zero_mul, Nat.zero_add]
    exact hu
  | q :: qs, k + 1, p, h, j, u, hu => by
    simp at h
    have := encR_at h j u hu
    unfold encR at this ⊢
    rw [List.flatMap_cons, List.getElem?_append_right (by simp [enc4]; omega)]
    rw [show (k + 1) * 4 + j - (enc4 q).length = k * 4 + j by simp [enc4]; omega]
    exact this
/-- The slice '.slice (some ⟨g, 0, none⟩) n c' holds reached blocks. -/
def RdR (w : World) (g : Nat) (all : List (Nat × List UInt8)) : Prop := ∀ k p, all[k]? = some p → w.cell? ⟨g, k * 4, none⟩ = some (.int .i64 (Bk.nd p.1)) ∧ w.cell? ⟨g, k * 4 + 1, none⟩ = some (.bool (Bk.ins p.1)) ∧ w.cell? ⟨g, k * 4 + 2, none⟩ = some (.bool (Bk.off p.1)) ∧ w.cell? ⟨g, k * 4 + 3, none⟩ = some (.string (mkS p.2))
theorem RdR.of_own {w : World} {base g n c : Nat} {e : TypeId} {all : List (Nat × List UInt8)} (h : w.ownsRow base e 4 (.slice (some ⟨g, 0, none⟩) n c) n (encR all)) : RdR w g all := by
  intro k p hk
  have hl : n * 4 = all.length * 4 := by rw [← encR_len]; exact h.1.symm
  have hlt : k < all.length := (List.getElem?_eq_some_iff.1 hk).1
  refine ⟨?_, ?_, ?_, ?_⟩
  · rw [h.cellAt (k * 4) (by omega)]; exact encR_at hk 0 _ rfl
  · rw [h.cellAt (k * 4 + 1) (by omega)]; exact encR_at hk 1 _ rfl
  · rw [h.cellAt (k * 4 + 2) (by omega)]; exact encR_at hk 2 _ rfl
  · rw [h.cellAt (k * 4 + 3) (by omega)]; exact encR_at hk 3 _ rfl
theorem RdR.below {w w' : World} {g : Nat} {all : List (Nat × List UInt8)} (h : RdR w g all) (hb : Below w.heap.size w w') : RdR w' g all := by
  intro k p hk
  obtain ⟨h0, h1, h2, h3⟩ := h k p hk
  exact ⟨(hb.cell (block_lt_of_cell h0)).trans h0, (hb.cell (block_lt_of_cell h1)).trans h1, (hb.cell (block_lt_of_cell h2)).trans h2, (hb.cell (block_lt_of_cell h3)).trans h3⟩
/-- Whether a state is among those reached. -/
def isR (all : List (Nat × List UInt8)) (u : Nat) : Bool := all.any fun p => p.1 == u
set_option maxRecDepth 100000 in
set_option maxHeartbeats 2000000 in
theorem isReached_any (g n c : Nat) (all : List (Nat × List UInt8)) (u : Nat) (w : World) (hx : RdR w g all) (hn : all.length = n) (hn5 : n ≤ 1000) (hall : ∀ p ∈ all, p.1 < 5) (hu : u < 5) :
    Calls Try.prog 73 #[.slice (some ⟨g, 0, none⟩) n c, bv (Bk.nd u) (Bk.ins u) (Bk.off u)] w fun e w' => e = .returned (.bool (isR all u)) ∧ Below w.heap.size w w' := by
  have HX := Lib.hid hx
  have HN := Lib.hid hn
  have HALL := Lib.hid hall
  clear hx hn hall
  go_enter Try.func73, Try.ntmps73
  go_wp2_with fail
  go_loopw [9] (fun j wr => ∃ k : Nat, k ≤ n ∧ j = .int .i64 k ∧ Hid (isR (all.take k) u = false) ∧ Hid (Room wr w.heap.size (.int .i64 (Bk.nd u)) (.bool (Bk.ins u)) (.bool (Bk.off u))) ∧ Hid (Below w.heap.size w wr)) (fun j _ => n - (intOf j).toNat)
  case atStart => exact ⟨0, by omega, rfl, by simp [Hid, isR], room_al _ _ _ _ _, (Below.refl _ _).alloc (Nat.le_refl _) _⟩
  case round =>
    obtain ⟨k, hk, rfl, HK, HR, Hb⟩ := hrel
    have hszw : w.heap.size ≤ wr.heap.size := Hb.out.size
    by_cases hlt : k < n
    · obtain ⟨p, hp⟩ : ∃ p, all[k]? = some p := ⟨all[k]'(by have := HN.out; omega), List.getElem?_eq_getElem _⟩
      obtain ⟨h0, h1, h2, h3⟩ := HX.out k p hp
      have c0 : wr.cell? ⟨g, k * 4, none⟩ = some (.int .i64 (Bk.nd p.1)) := (Hb.out.cell (block_lt_of_cell h0)).trans h0
      have c1 : wr.cell? ⟨g, k * 4 + 1, none⟩ = some (.bool (Bk.ins p.1)) := (Hb.out.cell (block_lt_of_cell h1)).trans h1
      have c2 : wr.cell? ⟨g, k * 4 + 2, none⟩ = some (.bool (Bk.off p.1)) := (Hb.out.cell (block_lt_of_cell h2)).trans h2
      have c3 : wr.cell? ⟨g, k * 4 + 3, none⟩ = some (.string (mkS p.2)) := (Hb.out.cell (block_lt_of_cell h3)).trans h3
      have HP := Lib.hid hp
      have hp5 : p.1 < 5 := HALL.out p (List.mem_of_getElem? hp)
      have HEQ := Lib.hid (Bk.st_eq hp5 hu)
      obtain ⟨b0, b1, b2, _, _, _⟩ := HR.out
      have hltb : w.heap.size < wr.heap.size := HR.out.lt
      clear h0 h1 h2 h3 hp
      by_cases he : p.1 = u
      · have hq : (Bk.nd p.1 == Bk.nd u && (Bk.ins p.1 == Bk.ins u && Bk.off p.1 == Bk.off u)) = true := by rw [HEQ.out]; simpa using he
        have HV : Hid (isR all u = true) := by unfold Hid isR; rw [List.any_eq_true]; exact ⟨p, List.mem_of_getElem? HP.out, by simpa using he⟩
        clear he
        go_wp2_with fail
        go_ret
        exact ⟨ret_bool HV.out.symm, Hb.out.alloc hszw _⟩
      · have hq : (Bk.nd p.1 == Bk.nd u && (Bk.ins p.1 == Bk.ins u && Bk.off p.1 == Bk.off u)) = false := by rw [HEQ.out]; simpa using he
        have HV : Hid (isR (all.take (k + 1)) u = false) := by unfold Hid isR; rw [take_snoc HP.out, List.any_append]; have := HK.out; unfold isR at this; rw [this]; simp [he]
        clear he
        go_wp2_with fail
        go_roundw
        case rel => exact ⟨k + 1, by omega, by go_num, HV, HR.out.alloc _, Hb.out.alloc hszw _⟩
        case measure => simp [intOf]; omega
    · have HV : Hid (isR all u = false) := by
        unfold Hid
        have := HK.out
        rwa [List.take_of_length_le (by have := HN.out; omega)] at this
      go_wp2_with fail
      go_ret
      exact ⟨ret_bool HV.out.symm, Hb.out⟩
theorem Try.infoReached : (Try.prog.info? 86).map (fun i => (i.zero, i.size, i.bytes)) = some (some (.agg #[.int .i64 0, .bool false, .bool false, .string ⟨#[]⟩]), 4, 32) := by kernel_rfl
theorem Bk.bIn_yes {f : Nat × List UInt8} {all : List (Nat × List UInt8)} {j : Nat} {c : UInt8} (hc : (Bk.nl f.1)[j]? = some c) (h : isR (Bk.bIn f all j) (Bk.go f.1 c) = true) : Bk.bIn f all (j + 1) = Bk.bIn f all j := by
  simp only [Bk.bIn]
  rw [List.getD_eq_getElem?_getD, hc]
  unfold isR at h
  simp only [Option.getD_some]
  rw [if_pos h]
theorem Bk.bIn_no {f : Nat × List UInt8} {all : List (Nat × List UInt8)} {j : Nat} {c : UInt8} (hc : (Bk.nl f.1)[j]? = some c) (h : isR (Bk.bIn f all j) (Bk.go f.1 c) = false) : Bk.bIn f all (j + 1) = Bk.bIn f all j ++ [(Bk.go f.1 c, f.2 ++ [c])] := by
  simp only [Bk.bIn]
  rw [List.getD_eq_getElem?_getD, hc]
  unfold isR at h
  simp only [Option.getD_some]
  rw [if_neg (by rw [h]; simp)]
theorem Bk.bIn_lt {f : Nat × List UInt8} {all : List (Nat × List UInt8)} (hf : f.1 < 5) (h : ∀ p ∈ all, p.1 < 5) : ∀ j, j ≤ (Bk.nl f.1).length → ∀ p ∈ Bk.bIn f all j, p.1 < 5
  | 0, _, p, hp => h p hp
  | j + 1, hj, p, hp => by
    have hc : (Bk.nl f.1)[j]? = some ((Bk.nl f.1)[j]'(by omega)) := List.getElem?_eq_getElem _
    cases hr : isR (Bk.bIn f all j) (Bk.go f.1 ((Bk.nl f.1)[j]'(by omega))) with
    | true => rw [Bk.bIn_yes hc hr] at hp; exact Bk.bIn_lt hf h j (by omega) p hp
    | false =>
      rw [Bk.bIn_no hc hr] at hp
      rcases List.mem_append.1 hp with h1 | h1
      · exact Bk.bIn_lt hf h j (by omega) p h1
      · simp at h1; subst h1; exact (Bk.nl_step hf (List.mem_of_getElem? hc)).2
theorem Bk.bIn_len (f : Nat × List UInt8) (all : List (Nat × List UInt8)) : ∀ j, (Bk.bIn f all j).length ≤ all.length + j
  | 0 => by simp [Bk.bIn]
  | j + 1 => by
    have := Bk.bIn_len f all j
    simp only [Bk.bIn]
    split
    · omega
    · rw [List.length_append]; simp; omega
theorem Bk.bOut_lt {s : Nat} (hs : s < 5) : ∀ i, i ≤ 5 → ∀ p ∈ Bk.bOut s i, p.1 < 5 := by
  have : ∀ s', s' < 5 → ∀ i, i < 6 → ∀ p ∈ Bk.bOut s' i, p.1 < 5 := by decide
  intro i hi
  exact this s hs i (by omega)
end Go.Proofs.Ytlneedjhdnjnpaa
