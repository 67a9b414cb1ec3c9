/-
  Plain laws of books: what stays valid; where codes are found; readings of clear books.
  Conditions: where said.
-/
import Derived.Test.YtpfgjkgjeejghaaReadPlain
namespace Go.Proofs.Ytpfgjkgjeejghaa.Bk
open Go.Proofs.Ytpfgjkgjeejghaa
theorem idx_some : ∀ {zss : List (List Int)} {zs : List Int} {o j : Nat}, idx zss zs o = some j → ∃ k, j = o + k ∧ zss[k]? = some zs
  | [], zs, o, j, h => by simp [idx] at h
  | c :: cs, zs, o, j, h => by
    simp only [idx] at h
    split at h
    · rename_i e
      simp only [Option.some.injEq] at h
      exact ⟨0, by omega, by simp [e]⟩
    · obtain ⟨k, h1, h2⟩ := idx_some h
      exact ⟨k + 1, by omega, by simpa using h2⟩
theorem find_some {zss : List (List Int)} {zs : List Int} (h : 0 ≤ find zss zs) : ∃ k : Nat, find zss zs = k ∧ valid zss = true ∧ zss[k]? = some zs := by
  unfold find at h ⊢
  by_cases hv : valid zss = true
  · rw [if_pos hv] at h ⊢
    cases hi : idx zss zs 0 with
    | none => rw [hi] at h; simp at h
    | some j =>
      obtain ⟨k, h1, h2⟩ := idx_some hi
      exact ⟨j, rfl, hv, by rw [h1, Nat.zero_add]; exact h2⟩
  · rw [if_neg hv] at h; omega
theorem valid_nodup {zss : List (List Int)} (h : valid zss = true) : zss.Nodup := by
  have := nodup_take h zss.length
  rwa [List.take_of_length_le (Nat.le_refl _)] at this
theorem okN_of {zss : List (List Int)} (h1 : ∀ zs ∈ zss, Cd.validB zs = true) (h2 : zss.Nodup) : ∀ k, k ≤ zss.length → okN zss k = true
  | 0, _ => rfl
  | k + 1, hk => by
    have hz := List.getElem?_eq_getElem (show k < zss.length by omega)
    refine okN_step (okN_of h1 h2 k (by omega)) hz (h1 _ (List.getElem_mem _)) fun hm => ?_
    have hd : (zss.take (k + 1)).Nodup := h2.sublist (List.take_sublist _ _)
    rw [take_snoc hz, List.nodup_append] at hd
    exact hd.2.2 _ hm _ (by simp) rfl
theorem valid_of {zss : List (List Int)} (h1 : ∀ zs ∈ zss, Cd.validB zs = true) (h2 : zss.Nodup) (h3 : zss.length ≤ 10) : valid zss = true := valid_true (okN_of h1 h2 _ (Nat.le_refl _)) h3
theorem valid_mem {zss : List (List Int)} (h : valid zss = true) {zs : List Int} (hm : zs ∈ zss) : Cd.validB zs = true := by
  obtain ⟨k, hk⟩ := List.mem_iff_getElem?.1 hm
  exact (valid_at h hk).1
theorem valid_erase {zss : List (List Int)} (h : valid zss = true) (k : Nat) : valid (zss.eraseIdx k) = true := by
  have hs := List.eraseIdx_sublist zss k
  exact valid_of (fun zs hm => valid_mem h (hs.mem hm)) ((valid_nodup h).sublist hs) (Nat.le_trans hs.length_le (valid_parts h).2)
theorem erase_eq (zss : List (List Int)) (k : Nat) : zss.take k ++ zss.drop (k + 1) = zss.eraseIdx k := (List.eraseIdx_eq_take_drop_succ zss k).symm
theorem find_erase {zss : List (List Int)} (h : valid zss = true) {k : Nat} {zs : List Int} (hk : zss[k]? = some zs) : find (zss.eraseIdx k) zs = -1 := by
  refine find_no fun hm => ?_
  have hd := valid_nodup h
  have hkl := (List.getElem?_eq_some_iff.1 hk).1
  rw [← erase_eq, List.mem_append] at hm
  have e : zss = zss.take k ++ zs :: zss.drop (k + 1) := by
    rw [← List.getElem?_eq_some_iff.1 hk |>.2]
    simp
  rw [e, List.nodup_append] at hd
  rcases hm with h1 | h1
  · exact hd.2.2 _ h1 _ (by simp) rfl
  · have := hd.2.1
    rw [List.nodup_cons] at this
    exact this.1 h1
theorem pre_self (zs : List Int) : pre zs zs = true := by unfold pre; simp
theorem R_nonneg {zss : List (List Int)} (h : valid zss = true) (l : List Int) : 0 ≤ R zss l := (R_bd h _ l (Nat.le_refl _)).1
theorem psum_ge {zss : List (List Int)} {l : List Int} {g : List Int → Int} (hg : ∀ x, 0 ≤ g x) : ∀ {k j : Nat} {c : List Int}, j < k → zss[j]? = some c → pre c l = true → g (l.drop c.length) ≤ psum zss l g k
  | 0, j, c, h, _, _ => by omega
  | k + 1, j, c, h, hj, hp => by
    have hz : 0 ≤ (if pre (zss.getD k []) l = true then g (l.drop (zss.getD k []).length) else 0) := by split; exact hg _; exact Int.le_refl _
    by_cases e : j = k
    · subst e
      have h0 : 0 ≤ psum zss l g j := by
        clear h hj hp hz
        induction j with
        | zero => simp [psum]
        | succ j ih =>
          simp only [psum]
          have hz : 0 ≤ (if pre (zss.getD j []) l = true then g (l.drop (zss.getD j []).length) else 0) := by split; exact hg _; exact Int.le_refl _
          omega
      rw [psum_yes hj hp]; omega
    · have := psum_ge hg (show j < k by omega) hj hp
      simp only [psum]
      omega
theorem ring_of_code {zs : List Int} (h : Cd.validB zs = true) : ring zs = true := by
  have hg := Cd.valid_grp h
  unfold ring
  rw [Bool.and_eq_true, List.all_eq_true, decide_eq_true_eq]
  exact ⟨fun z hz => (Cd.inB_iff z).2 (hg.1 z hz), by omega⟩
theorem reads_code {zss : List (List Int)} (h : valid zss = true) {k : Nat} {zs : List Int} (hk : zss[k]? = some zs) : 1 ≤ reads zss zs := by
  have hv := (valid_at h hk).1
  rw [reads_yes h (ring_of_code hv)]
  have hne : zs ≠ [] := by
    intro e
    have := (Cd.valid_grp hv).2.1
    rw [e] at this; simp at this
  rw [R_step (valid_full h) hne]
  have := psum_ge (g := R zss) (fun x => R_nonneg h x) (List.getElem?_eq_some_iff.1 hk).1 hk (pre_self zs)
  rw [List.drop_of_length_le (Nat.le_refl _), R_nil] at this
  exact this
theorem ring_drop {l : List Int} (h : ring l = true) (k : Nat) : ring (l.drop k) = true := by
  unfold ring at h ⊢
  rw [Bool.and_eq_true, List.all_eq_true, decide_eq_true_eq] at h ⊢
  exact ⟨fun z hz => h.1 z (List.mem_of_mem_drop hz), by rw [List.length_drop]; omega⟩
/-- Of a clear book at most one code stands at a place. -/
theorem clear_few {zss : List (List Int)} (h : clear zss = true) (l : List Int) (k : Nat) : ((zss.take k).filter fun c => pre c l).length ≤ 1 := by
  unfold clear at h
  rw [Bool.and_eq_true] at h
  obtain ⟨hf, hv⟩ := h
  have hone : ∀ a ∈ zss, ∀ b ∈ zss, pre a l = true → pre b l = true → a = b := by
    have key : ∀ a ∈ zss, ∀ b ∈ zss, pre a l = true → pre b l = true → a.length ≤ b.length → a = b := by
      intro a ha b hb h1 h2 hle
      unfold pre at h1 h2
      simp only [Bool.and_eq_true, decide_eq_true_eq] at h1 h2
      have e : a = b.take a.length := by
        rw [h2.2, List.take_take, Nat.min_eq_left hle]
        exact h1.2
      by_cases hlt : a.length < b.length
      · exfalso
        unfold free at hf
        rw [List.all_eq_true] at hf
        have h3 := hf a ha
        rw [List.all_eq_true] at h3
        have h4 := h3 b hb
        unfold Cd.begins at h4
        rw [valid_mem hv ha, valid_mem hv hb, decide_eq_true hlt, decide_eq_true e] at h4
        simp at h4
      · rw [List.take_of_length_le (by omega)] at e
        exact e
    intro a ha b hb h1 h2
    rcases Nat.le_total a.length b.length with hle | hle
    · exact key a ha b hb h1 h2 hle
    · exact (key b hb a ha h2 h1 hle).symm
  cases hq : ((zss.take k).filter fun c => pre c l) with
  | nil => simp
  | cons a rest =>
    rw [← hq]
    have hm : ∀ x ∈ ((zss.take k).filter fun c => pre c l), x ∈ zss ∧ pre x l = true := fun x hx => by
      rw [List.mem_filter] at hx
      exact ⟨List.mem_of_mem_take hx.1, hx.2⟩
    have ha := hm a (by rw [hq]; simp)
    refine one_of_same (a := a) ((nodup_take hv k).filter _) fun x hx => ?_
    obtain ⟨h1, h2⟩ := hm x hx
    exact hone x h1 a ha.1 h2 ha.2
theorem R_clear {zss : List (List Int)} (h : clear zss = true) : ∀ (n : Nat) (l : List Int), l.length ≤ n → R zss l ≤ 1 := by
  have hv : valid zss = true := by unfold clear at h; rw [Bool.and_eq_true] at h; exact h.2
  intro n
  induction n with
  | zero =>
    intro l hl
    have : l = [] := List.eq_nil_of_length_eq_zero (by omega)
    subst this
    rw [R_nil]; omega
  | succ n ih =>
    intro l hl
    by_cases hl0 : l = []
    · subst hl0; rw [R_nil]; omega
    · have hpos : 0 < l.length := List.length_pos_iff.2 hl0
      rw [R_step (valid_full hv) hl0]
      have hb := psum_bd (zss := zss) (l := l) (g := R zss) (M := 1) (by omega) zss.length (Nat.le_refl _) (fun i hi _ => by
        have hc := full_at (valid_full hv) hi
        exact ⟨R_nonneg hv _, ih _ (by rw [List.length_drop]; omega)⟩)
      have := clear_few h l zss.length
      omega
end Go.Proofs.Ytpfgjkgjeejghaa.Bk
