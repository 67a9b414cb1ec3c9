/-
  Plain laws of repaired texts: each is legal, has the text in it, is there once; a text with an event left out is repaired to itself. No program in sight.
-/
import Derived.Test.YtlneedjhdnjnpaaBlkF
import Derived.Test.YtlneedjhdnjnpaaBlkLaws
namespace Go.Proofs.Ytlneedjhdnjnpaa.Bk

theorem addL_sub {acc : List (List UInt8)} {x y : List UInt8} (h : y ∈ acc) : y ∈ addL acc x := by
  unfold addL
  split
  · exact List.mem_append_left _ h
  · exact h
theorem addL_self {acc : List (List UInt8)} {x : List UInt8} (h : legal x = true) : x ∈ addL acc x := by
  by_cases h2 : x ∈ acc
  · exact addL_sub h2
  · rw [addL_new h h2]; simp
theorem addL_mem {acc : List (List UInt8)} {x y : List UInt8} (h : y ∈ addL acc x) : y ∈ acc ∨ (y = x ∧ legal x = true) := by
  unfold addL at h
  split at h
  · rename_i hh
    rcases List.mem_append.1 h with h | h
    · exact .inl h
    · simp at h; exact .inr ⟨h, hh.1⟩
  · exact .inl h
theorem addL_nodup {acc : List (List UInt8)} (x : List UInt8) (h : acc.Nodup) : (addL acc x).Nodup := by
  unfold addL
  split
  · rename_i hh
    rw [List.nodup_append]
    refine ⟨h, by simp, ?_⟩
    intro a ha b hb
    simp at hb
    subst hb
    intro e
    subst e
    exact hh.2 ha
  · exact h
theorem rpIn_sub (l : List UInt8) (p : Nat) {acc : List (List UInt8)} {y : List UInt8} (h : y ∈ acc) : ∀ k, y ∈ rpIn l p k acc
  | 0 => h
  | k + 1 => addL_sub (rpIn_sub l p h k)
theorem rpIn_has (l : List UInt8) (p : Nat) (acc : List (List UInt8)) {j : Nat} (hl : legal (putL l p j) = true) : ∀ k, j < k → putL l p j ∈ rpIn l p k acc
  | 0, h => by omega
  | k + 1, h => by
    by_cases e : j = k
    · subst e; exact addL_self hl
    · exact addL_sub (rpIn_has l p acc hl k (by omega))
theorem rpIn_mem (l : List UInt8) (p : Nat) (acc : List (List UInt8)) {y : List UInt8} : ∀ k, y ∈ rpIn l p k acc → y ∈ acc ∨ ∃ j, j < k ∧ y = putL l p j ∧ legal y = true
  | 0, h => .inl h
  | k + 1, h => by
    rcases addL_mem h with h | ⟨h, h2⟩
    · rcases rpIn_mem l p acc k h with h | ⟨j, h1, h2⟩
      · exact .inl h
      · exact .inr ⟨j, by omega, h2⟩
    · exact .inr ⟨k, by omega, h, by rw [h]; exact h2⟩
theorem rpIn_nodup (l : List UInt8) (p : Nat) {acc : List (List UInt8)} (h : acc.Nodup) : ∀ k, (rpIn l p k acc).Nodup
  | 0 => h
  | k + 1 => addL_nodup _ (rpIn_nodup l p h k)
theorem rpOut_nodup (l : List UInt8) : ∀ p, (rpOut l p).Nodup
  | 0 => by simp [rpOut]
  | p + 1 => rpIn_nodup l p (rpOut_nodup l p) 7
theorem rpOut_mem (l : List UInt8) {y : List UInt8} : ∀ p, y ∈ rpOut l p → ∃ q j, q < p ∧ j < 7 ∧ y = putL l q j ∧ legal y = true
  | 0, h => by simp [rpOut] at h
  | p + 1, h => by
    rcases rpIn_mem l p (rpOut l p) 7 h with h | ⟨j, h1, h2⟩
    · obtain ⟨q, j, hq, hj⟩ := rpOut_mem l p h
      exact ⟨q, j, by omega, hj⟩
    · exact ⟨p, j, by omega, h1, h2⟩
theorem rpOut_has (l : List UInt8) {q j : Nat} (hj : j < 7) (hl : legal (putL l q j) = true) : ∀ p, q < p → putL l q j ∈ rpOut l p
  | 0, h => by omega
  | p + 1, h => by
    by_cases e : q = p
    · subst e; exact rpIn_has l q (rpOut l q) hl 7 hj
    · exact rpIn_sub l p (rpOut_has l hj hl p (by omega)) 7
theorem put_len (l : List UInt8) (q j : Nat) (h : q ≤ l.length) : (putL l q j).length = l.length + 1 := by
  unfold putL
  simp only [List.length_append, List.length_take, List.length_drop, List.length_singleton]
  omega
theorem put_cut (l : List UInt8) (q j : Nat) (h : q ≤ l.length) : (putL l q j).take q ++ (putL l q j).drop (q + 1) = l := by
  have e1 : (l.take q).length = q := by rw [List.length_take]; omega
  unfold putL
  have t1 : (l.take q ++ [ev.getD j 0] ++ l.drop q).take q = l.take q := by
    rw [List.append_assoc, List.take_append_of_le_length (by omega), List.take_of_length_le (by omega)]
  have t2 : (l.take q ++ [ev.getD j 0] ++ l.drop q).drop (q + 1) = l.drop q := by
    have e2 : (l.take q ++ [ev.getD j 0]).length = q + 1 := by rw [List.length_append, e1]; rfl
    rw [← e2, List.drop_left]
  rw [t1, t2, List.take_append_drop]
/-- Each repaired text is legal, and there is a place at which it has one letter more. -/
theorem repairL_mem {l y : List UInt8} (h : y ∈ repairL l) : legal y = true ∧ y.length ≤ 30 ∧ ∃ q, q < y.length ∧ y.take q ++ y.drop (q + 1) = l := by
  unfold repairL at h
  split at h
  · obtain ⟨q, j, hq, hj, rfl, hl⟩ := rpOut_mem l _ h
    exact ⟨hl, (legal_run hl).1, q, by rw [put_len l q j (by omega)]; omega, put_cut l q j (by omega)⟩
  · simp at h
theorem repairL_nodup (l : List UInt8) : (repairL l).Nodup := by
  unfold repairL
  split
  · exact rpOut_nodup l _
  · simp
theorem ev_mem {c : UInt8} {s t : Nat} (h : step s c.toNat = some t) : ∃ j, j < 7 ∧ ev.getD j 0 = c := by
  rcases step_bytes h with ⟨_, rfl, _⟩ | ⟨_, rfl, _⟩ | ⟨_, rfl, _⟩ | ⟨_, rfl, _⟩ | ⟨_, rfl, _⟩ | ⟨_, rfl, _⟩ | ⟨_, rfl, _⟩
  · exact ⟨5, by omega, rfl⟩
  · exact ⟨6, by omega, rfl⟩
  · exact ⟨0, by omega, rfl⟩
  · exact ⟨1, by omega, rfl⟩
  · exact ⟨2, by omega, rfl⟩
  · exact ⟨4, by omega, rfl⟩
  · exact ⟨3, by omega, rfl⟩
theorem run_ev : ∀ (l : List UInt8) {s t : Nat}, runS s l = some t → ∀ c ∈ l, ∃ j, j < 7 ∧ ev.getD j 0 = c
  | [], s, t, h, c, hc => by simp at hc
  | d :: ds, s, t, h, c, hc => by
    obtain ⟨u, h1, h2⟩ := runS_cons h
    rcases List.mem_cons.1 hc with rfl | hc
    · exact ev_mem h1
    · exact run_ev ds h2 c hc
/-- A legal text with one event left out is repaired to itself. -/
theorem repair_back {l : List UInt8} {k : Nat} (hk : k < l.length) (hl : legal l = true) : l ∈ repairL (l.take k ++ l.drop (k + 1)) := by
  obtain ⟨h30, t, _, hr, _⟩ := legal_run hl
  obtain ⟨j, hj, he⟩ := run_ev l hr l[k] (List.getElem_mem hk)
  have e1 : (l.take k).length = k := by rw [List.length_take]; omega
  have e2 : (l.take k ++ l.drop (k + 1)).length = l.length - 1 := by rw [List.length_append, e1, List.length_drop]; omega
  have e3 : putL (l.take k ++ l.drop (k + 1)) k j = l := by
    unfold putL
    rw [List.take_append_of_le_length (by omega), List.take_of_length_le (by omega)]
    have t2 : (l.take k ++ l.drop (k + 1)).drop k = l.drop (k + 1) := by
      have := List.drop_left (l₁ := l.take k) (l₂ := l.drop (k + 1))
      rwa [e1] at this
    rw [t2, he, List.append_assoc]
    have t3 : [l[k]] ++ l.drop (k + 1) = l.drop k := (List.drop_eq_getElem_cons hk).symm
    rw [t3, List.take_append_drop]
  have e4 : legal (putL (l.take k ++ l.drop (k + 1)) k j) = true := by rw [e3]; exact hl
  have := rpOut_has (l.take k ++ l.drop (k + 1)) hj e4 ((l.take k ++ l.drop (k + 1)).length + 1) (by omega)
  rw [e3] at this
  unfold repairL
  rw [if_pos (by omega)]
  exact this
theorem dropL_mem {l : List UInt8} {z : Int} (h : z ∈ dropL l) : ∃ k : Nat, z = k ∧ k < l.length ∧ l.length ≤ 30 ∧ legal (l.take k ++ l.drop (k + 1)) = true := by
  unfold dropL at h
  split at h
  · rename_i h30
    unfold dr at h
    rw [List.mem_map] at h
    obtain ⟨k, hk, rfl⟩ := h
    rw [List.mem_filter, List.mem_range] at hk
    exact ⟨k, rfl, hk.1, h30, hk.2⟩
  · simp at h
end Go.Proofs.Ytlneedjhdnjnpaa.Bk
