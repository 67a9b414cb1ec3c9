/-
  Plain laws of the reading with the fewest codes.
  Conditions: the book is valid where said.
-/
import Derived.Test.YtpfgjkgjeejghaaReadPlain
namespace Go.Proofs.Ytpfgjkgjeejghaa.Bk
open Go.Proofs.Ytpfgjkgjeejghaa
/-- The best first code among the first k codes: its index and the number of codes of the reading. -/
def bst (zss : List (List Int)) (l : List Int) (g : List Int → Option Nat) : Nat → Option (Nat × Nat)
  | 0 => none
  | k + 1 => if pre (zss.getD k []) l = true then
      (match g (l.drop (zss.getD k []).length) with
      | none => bst zss l g k
      | some m => match bst zss l g k with
        | none => some (k, m + 1)
        | some (i, q) => if m + 1 < q then some (k, m + 1) else some (i, q))
    else bst zss l g k
def fewF (zss : List (List Int)) : Nat → List Int → Option Nat
  | 0, _ => some 0
  | f + 1, l => if l = [] then some 0 else (bst zss l (fewF zss f) zss.length).map Prod.snd
/-- The fewest codes of a reading. -/
def few1 (zss : List (List Int)) (l : List Int) : Option Nat := fewF zss l.length l
section
variable {zss : List (List Int)} {l : List Int} {g h : List Int → Option Nat} {k : Nat} {c : List Int}
theorem bst_off (hk : zss[k]? = some c) (hp : pre c l = false) : bst zss l g (k + 1) = bst zss l g k := by
  simp only [bst]; rw [getD_at hk, if_neg (by simp [hp])]
theorem bst_none (hk : zss[k]? = some c) (hp : pre c l = true) (hg : g (l.drop c.length) = none) : bst zss l g (k + 1) = bst zss l g k := by
  simp only [bst]; rw [getD_at hk, if_pos hp, hg]
theorem bst_first {m : Nat} (hk : zss[k]? = some c) (hp : pre c l = true) (hg : g (l.drop c.length) = some m) (hb : bst zss l g k = none) : bst zss l g (k + 1) = some (k, m + 1) := by
  simp only [bst]; rw [getD_at hk, if_pos hp, hg, hb]
theorem bst_less {m i q : Nat} (hk : zss[k]? = some c) (hp : pre c l = true) (hg : g (l.drop c.length) = some m) (hb : bst zss l g k = some (i, q)) (hlt : m + 1 < q) : bst zss l g (k + 1) = some (k, m + 1) := by
  simp only [bst]; rw [getD_at hk, if_pos hp, hg, hb]; simp [hlt]
theorem bst_keep {m i q : Nat} (hk : zss[k]? = some c) (hp : pre c l = true) (hg : g (l.drop c.length) = some m) (hb : bst zss l g k = some (i, q)) (hlt : ¬ m + 1 < q) : bst zss l g (k + 1) = some (i, q) := by
  simp only [bst]; rw [getD_at hk, if_pos hp, hg, hb]; simp [hlt]
theorem bst_congr : ∀ k, (∀ i, i < k → pre (zss.getD i []) l = true → g (l.drop (zss.getD i []).length) = h (l.drop (zss.getD i []).length)) → bst zss l g k = bst zss l h k
  | 0, _ => rfl
  | k + 1, H => by
    have ih := bst_congr k (fun i hi => H i (by omega))
    simp only [bst]
    by_cases e : pre (zss.getD k []) l = true
    · rw [if_pos e, if_pos e, H k (by omega) e, ih]
    · rw [if_neg e, if_neg e, ih]
theorem bst_no : ∀ k, bst zss l g k = none ↔ ∀ j, j < k → pre (zss.getD j []) l = true → g (l.drop (zss.getD j []).length) = none
  | 0 => by simp [bst]
  | k + 1 => by
    have ih := bst_no k
    simp only [bst]
    by_cases hp : pre (zss.getD k []) l = true
    · rw [if_pos hp]
      cases hg : g (l.drop (zss.getD k []).length) with
      | none =>
        rw [ih]
        refine ⟨fun H j hj hpj => ?_, fun H j hj => H j (by omega)⟩
        by_cases e : j = k
        · subst e; exact hg
        · exact H j (by omega) hpj
      | some m =>
        refine ⟨fun H => ?_, fun H => ?_⟩
        · exfalso
          revert H
          cases bst zss l g k with
          | none => simp
          | some p => obtain ⟨a, b⟩ := p; simp only; split <;> simp
        · have := H k (by omega) hp
          rw [hg] at this; cases this
    · rw [if_neg hp, ih]
      refine ⟨fun H j hj hpj => ?_, fun H j hj => H j (by omega)⟩
      by_cases e : j = k
      · subst e; exact absurd hpj hp
      · exact H j (by omega) hpj
/-- What the best first code is. -/
theorem bst_spec : ∀ (k : Nat) (i q : Nat), bst zss l g k = some (i, q) → i < k ∧ pre (zss.getD i []) l = true ∧ (∃ m, g (l.drop (zss.getD i []).length) = some m ∧ q = m + 1) ∧
    ∀ j m', j < k → pre (zss.getD j []) l = true → g (l.drop (zss.getD j []).length) = some m' → q ≤ m' + 1 ∧ (j < i → q < m' + 1)
  | 0, _, _, e => by simp [bst] at e
  | k + 1, i, q, e => by
    have keep : ∀ (P : ∀ m', g (l.drop (zss.getD k []).length) = some m' → pre (zss.getD k []) l = true → q ≤ m' + 1), bst zss l g k = some (i, q) → i < k + 1 ∧ pre (zss.getD i []) l = true ∧ (∃ m, g (l.drop (zss.getD i []).length) = some m ∧ q = m + 1) ∧
        ∀ j m', j < k + 1 → pre (zss.getD j []) l = true → g (l.drop (zss.getD j []).length) = some m' → q ≤ m' + 1 ∧ (j < i → q < m' + 1) := by
      intro P e'
      obtain ⟨h1, h2, h3, h4⟩ := bst_spec k i q e'
      refine ⟨by omega, h2, h3, fun j m' hj hp hg => ?_⟩
      by_cases ej : j = k
      · subst ej; exact ⟨P m' hg hp, fun h => by omega⟩
      · exact h4 j m' (by omega) hp hg
    simp only [bst] at e
    by_cases hp : pre (zss.getD k []) l = true
    · rw [if_pos hp] at e
      cases hg : g (l.drop (zss.getD k []).length) with
      | none =>
        rw [hg] at e
        exact keep (fun m' h _ => by rw [hg] at h; cases h) e
      | some m =>
        rw [hg] at e
        cases hb : bst zss l g k with
        | none =>
          rw [hb] at e
          simp only [Option.some.injEq, Prod.mk.injEq] at e
          obtain ⟨rfl, rfl⟩ := e
          refine ⟨by omega, hp, ⟨m, hg, rfl⟩, fun j m' hj hpj hgj => ?_⟩
          by_cases ej : j = k
          · subst ej; rw [hg] at hgj; cases hgj; exact ⟨Nat.le_refl _, fun h => by omega⟩
          · have := (bst_no k).1 hb j (by omega) hpj
            rw [hgj] at this; cases this
        | some p =>
          obtain ⟨a, b⟩ := p
          rw [hb] at e
          simp only at e
          split at e
          · rename_i hlt
            simp only [Option.some.injEq, Prod.mk.injEq] at e
            obtain ⟨rfl, rfl⟩ := e
            obtain ⟨h1, h2, h3, h4⟩ := bst_spec k a b hb
            refine ⟨by omega, hp, ⟨m, hg, rfl⟩, fun j m' hj hpj hgj => ?_⟩
            by_cases ej : j = k
            · subst ej; rw [hg] at hgj; cases hgj; exact ⟨Nat.le_refl _, fun h => by omega⟩
            · have := h4 j m' (by omega) hpj hgj
              omega
          · rename_i hlt
            simp only [Option.some.injEq, Prod.mk.injEq] at e
            obtain ⟨rfl, rfl⟩ := e
            exact keep (fun m' h _ => by rw [hg] at h; cases h; omega) hb
    · rw [if_neg hp] at e
      exact keep (fun m' _ h => absurd h hp) e
end
theorem fewF_eq {zss : List (List Int)} (hf : full zss) : ∀ (n f : Nat) (l : List Int), l.length ≤ n → l.length ≤ f → fewF zss f l = few1 zss l := by
  intro n
  induction n with
  | zero =>
    intro f l h1 _
    have : l = [] := List.eq_nil_of_length_eq_zero (by omega)
    subst this
    cases f <;> simp [fewF, few1]
  | succ n ih =>
    intro f l h1 h2
    by_cases hl : l = []
    · subst hl; cases f <;> simp [fewF, few1]
    · have hpos : 0 < l.length := List.length_pos_iff.2 hl
      obtain ⟨f', rfl⟩ : ∃ f', f = f' + 1 := ⟨f - 1, by omega⟩
      obtain ⟨m, hm⟩ : ∃ m, l.length = m + 1 := ⟨l.length - 1, by omega⟩
      unfold few1
      rw [hm]
      simp only [fewF]
      rw [if_neg hl, if_neg hl]
      congr 1
      refine bst_congr _ fun i hi _ => ?_
      have hc := full_at hf hi
      rw [ih f' _ (by rw [List.length_drop]; omega) (by rw [List.length_drop]; omega), ih m _ (by rw [List.length_drop]; omega) (by rw [List.length_drop]; omega)]
theorem few1_nil (zss : List (List Int)) : few1 zss [] = some 0 := rfl
/-- The best first code of a list. -/
def best1 (zss : List (List Int)) (l : List Int) : Option (Nat × Nat) := bst zss l (few1 zss) zss.length
theorem few1_step {zss : List (List Int)} (hf : full zss) {l : List Int} (hl : l ≠ []) : few1 zss l = (best1 zss l).map Prod.snd := by
  have hpos : 0 < l.length := List.length_pos_iff.2 hl
  obtain ⟨m, hm⟩ : ∃ m, l.length = m + 1 := ⟨l.length - 1, by omega⟩
  conv => lhs; unfold few1
  rw [hm]
  simp only [fewF]
  rw [if_neg hl]
  unfold best1
  congr 1
  refine bst_congr _ fun i hi _ => ?_
  have hc := full_at hf hi
  exact fewF_eq hf m m _ (by rw [List.length_drop]; omega) (by rw [List.length_drop]; omega)
theorem few1_le {zss : List (List Int)} (hf : full zss) : ∀ (n : Nat) (l : List Int) (q : Nat), l.length ≤ n → few1 zss l = some q → q ≤ l.length := by
  intro n
  induction n with
  | zero =>
    intro l q hl h
    have : l = [] := List.eq_nil_of_length_eq_zero (by omega)
    subst this
    rw [few1_nil] at h
    cases h
    exact Nat.le_refl _
  | succ n ih =>
    intro l q hl h
    by_cases hl0 : l = []
    · subst hl0; rw [few1_nil] at h; cases h; exact Nat.zero_le _
    · have hpos : 0 < l.length := List.length_pos_iff.2 hl0
      rw [few1_step hf hl0] at h
      obtain ⟨⟨i, q'⟩, hb, rfl⟩ := Option.map_eq_some_iff.1 h
      obtain ⟨h1, h2, ⟨m, h3, rfl⟩, _⟩ := bst_spec _ _ _ hb
      have hc := full_at hf h1
      have := ih _ m (by rw [List.length_drop]; omega) h3
      have h5 := pre_len h2
      rw [List.length_drop] at this
      show m + 1 ≤ _
      omega
/-- There is a best reading where there is a reading. -/
theorem psum_iff {zss : List (List Int)} {l : List Int} {g : List Int → Int} {h : List Int → Option Nat} : ∀ k, (∀ i, i < k → pre (zss.getD i []) l = true → 0 ≤ g (l.drop (zss.getD i []).length) ∧ (h (l.drop (zss.getD i []).length) = none ↔ g (l.drop (zss.getD i []).length) = 0)) →
    0 ≤ psum zss l g k ∧ (bst zss l h k = none ↔ psum zss l g k = 0)
  | 0, _ => by simp [psum, bst]
  | k + 1, H => by
    obtain ⟨ih0, ih⟩ := psum_iff k (fun i hi => H i (by omega))
    rw [bst_no] at ih ⊢
    simp only [psum]
    by_cases hp : pre (zss.getD k []) l = true
    · rw [if_pos hp]
      obtain ⟨h0, h1⟩ := H k (by omega) hp
      refine ⟨by omega, fun A => ?_, fun A j hj hpj => ?_⟩
      · have a1 := ih.1 (fun j hj => A j (by omega))
        have a2 := h1.1 (A k (by omega) hp)
        omega
      · by_cases e : j = k
        · subst e; exact h1.2 (by omega)
        · exact ih.2 (by omega) j (by omega) hpj
    · rw [if_neg hp]
      refine ⟨by omega, fun A => ?_, fun A j hj hpj => ?_⟩
      · have a1 := ih.1 (fun j hj => A j (by omega))
        omega
      · by_cases e : j = k
        · subst e; exact absurd hpj hp
        · exact ih.2 (by omega) j (by omega) hpj
theorem few1_iff {zss : List (List Int)} (hf : full zss) : ∀ (n : Nat) (l : List Int), l.length ≤ n → 0 ≤ R zss l ∧ (few1 zss l = none ↔ R zss l = 0) := by
  intro n
  induction n with
  | zero =>
    intro l hl
    have : l = [] := List.eq_nil_of_length_eq_zero (by omega)
    subst this
    rw [few1_nil, R_nil]; simp
  | succ n ih =>
    intro l hl
    by_cases hl0 : l = []
    · subst hl0; rw [few1_nil, R_nil]; simp
    · have hpos : 0 < l.length := List.length_pos_iff.2 hl0
      rw [few1_step hf hl0, R_step hf hl0, Option.map_eq_none_iff]
      exact psum_iff _ fun i hi _ => by
        have hc := full_at hf hi
        exact ih _ (by rw [List.length_drop]; omega)
/-- The reading that takes the best first code each time. -/
def rdF (zss : List (List Int)) : Nat → List Int → List Int
  | 0, _ => []
  | f + 1, l => match best1 zss l with
    | none => []
    | some (i, _) => if l = [] then [] else (i : Int) :: rdF zss f (l.drop (zss.getD i []).length)
def rd1 (zss : List (List Int)) (l : List Int) : List Int := rdF zss l.length l
theorem rdF_nil (zss : List (List Int)) (f : Nat) : rdF zss f [] = [] := by
  cases f
  · rfl
  · simp only [rdF]; split <;> simp
theorem rdF_eq {zss : List (List Int)} (hf : full zss) : ∀ (n f : Nat) (l : List Int), l.length ≤ n → l.length ≤ f → rdF zss f l = rd1 zss l := by
  intro n
  induction n with
  | zero =>
    intro f l h1 _
    have : l = [] := List.eq_nil_of_length_eq_zero (by omega)
    subst this
    unfold rd1
    rw [rdF_nil, rdF_nil]
  | succ n ih =>
    intro f l h1 h2
    by_cases hl : l = []
    · subst hl; unfold rd1; rw [rdF_nil, rdF_nil]
    · have hpos : 0 < l.length := List.length_pos_iff.2 hl
      obtain ⟨f', rfl⟩ : ∃ f', f = f' + 1 := ⟨f - 1, by omega⟩
      obtain ⟨m, hm⟩ : ∃ m, l.length = m + 1 := ⟨l.length - 1, by omega⟩
      unfold rd1
      rw [hm]
      simp only [rdF]
      cases hb : best1 zss l with
      | none => rfl
      | some p =>
        obtain ⟨i, q⟩ := p
        simp only
        rw [if_neg hl, if_neg hl]
        have hc := full_at hf (bst_spec _ _ _ hb).1
        rw [ih f' _ (by rw [List.length_drop]; omega) (by rw [List.length_drop]; omega), ih m _ (by rw [List.length_drop]; omega) (by rw [List.length_drop]; omega)]
theorem rd1_nil (zss : List (List Int)) : rd1 zss [] = [] := rfl
theorem rd1_step {zss : List (List Int)} (hf : full zss) {l : List Int} (hl : l ≠ []) {i q : Nat} (hb : best1 zss l = some (i, q)) : rd1 zss l = (i : Int) :: rd1 zss (l.drop (zss.getD i []).length) := by
  have hpos : 0 < l.length := List.length_pos_iff.2 hl
  obtain ⟨m, hm⟩ : ∃ m, l.length = m + 1 := ⟨l.length - 1, by omega⟩
  conv => lhs; unfold rd1
  rw [hm]
  simp only [rdF]
  rw [hb]
  simp only
  rw [if_neg hl]
  have hc := full_at hf (bst_spec _ _ _ hb).1
  rw [rdF_eq hf m m _ (by rw [List.length_drop]; omega) (by rw [List.length_drop]; omega)]
theorem rd1_len {zss : List (List Int)} (hf : full zss) : ∀ (n : Nat) (l : List Int), l.length ≤ n → (rd1 zss l).length ≤ l.length := by
  intro n
  induction n with
  | zero =>
    intro l hl
    have : l = [] := List.eq_nil_of_length_eq_zero (by omega)
    subst this
    exact Nat.le_refl _
  | succ n ih =>
    intro l hl
    by_cases hl0 : l = []
    · subst hl0; exact Nat.le_refl _
    · have hpos : 0 < l.length := List.length_pos_iff.2 hl0
      cases hb : best1 zss l with
      | none =>
        obtain ⟨m, hm⟩ : ∃ m, l.length = m + 1 := ⟨l.length - 1, by omega⟩
        unfold rd1
        rw [hm]
        simp only [rdF]
        rw [hb]
        exact Nat.zero_le _
      | some p =>
        obtain ⟨i, q⟩ := p
        rw [rd1_step hf hl0 hb, List.length_cons]
        have hc := full_at hf (bst_spec _ _ _ hb).1
        have := ih (l.drop (zss.getD i []).length) (by rw [List.length_drop]; omega)
        rw [List.length_drop] at this
        omega
/-- Behind the best first code there is a reading again. -/
theorem best_next {zss : List (List Int)} {l : List Int} {i q : Nat} (hb : best1 zss l = some (i, q)) : few1 zss (l.drop (zss.getD i []).length) ≠ none := by
  obtain ⟨_, _, ⟨m, h3, _⟩, _⟩ := bst_spec _ _ _ hb
  rw [h3]; simp
theorem best_some {zss : List (List Int)} (hf : full zss) {l : List Int} (hl : l ≠ []) (h : few1 zss l ≠ none) : ∃ i q, best1 zss l = some (i, q) := by
  rw [few1_step hf hl] at h
  cases hb : best1 zss l with
  | none => rw [hb] at h; exact absurd rfl h
  | some p => exact ⟨p.1, p.2, rfl⟩
theorem drop_ne {zs : List Int} {p : Nat} (h : p < zs.length) : zs.drop p ≠ [] := by
  intro e
  have h1 : (zs.drop p).length = 0 := by rw [e]; rfl
  rw [List.length_drop] at h1
  omega
/-- Whether BookRead finds a reading. -/
def readOk (zss : List (List Int)) (l : List Int) : Bool := decide (1 ≤ reads zss l)
/-- What BookRead returns. -/
def readL (zss : List (List Int)) (l : List Int) : List Int := if readOk zss l = true then rd1 zss l else []
theorem readOk_iff {zss : List (List Int)} {l : List Int} (h : valid zss = true) (hr : ring l = true) : readOk zss l = true ↔ few1 zss l ≠ none := by
  unfold readOk
  rw [reads_yes h hr, decide_eq_true_eq]
  obtain ⟨h0, h1⟩ := few1_iff (valid_full h) _ l (Nat.le_refl _)
  rw [ne_eq, h1]
  omega
theorem readOk_bad {zss : List (List Int)} {l : List Int} (h : ¬ (valid zss = true ∧ ring l = true)) : readOk zss l = false := by
  unfold readOk; rw [reads_no h]; rfl
theorem readL_bad {zss : List (List Int)} {l : List Int} (h : readOk zss l = false) : readL zss l = [] := by unfold readL; rw [if_neg (by simp [h])]
theorem readL_yes {zss : List (List Int)} {l : List Int} (h : readOk zss l = true) : readL zss l = rd1 zss l := by unfold readL; rw [if_pos h]
/-- As the reference writes it: 1000 for none. -/
def fv : Option Nat → Nat
  | none => 1000
  | some q => q
def fb : Option (Nat × Nat) → Nat
  | none => 1000
  | some p => p.2
theorem fb_map (p : Option (Nat × Nat)) : fv (p.map Prod.snd) = fb p := by cases p <;> rfl
theorem fb_step {zss : List (List Int)} (hf : full zss) {l : List Int} (hl : l.length ≤ 20) {k : Nat} {c : List Int} (hk : zss[k]? = some c) (hp : pre c l = true) : fb (bst zss l (few1 zss) (k + 1)) = min (fb (bst zss l (few1 zss) k)) (fv (few1 zss (l.drop c.length)) + 1) := by
  cases hg : few1 zss (l.drop c.length) with
  | none =>
    rw [bst_none hk hp hg]
    cases hb : bst zss l (few1 zss) k with
    | none => rfl
    | some p =>
      obtain ⟨i, q⟩ := p
      obtain ⟨h1, h2, ⟨m, h3, rfl⟩, _⟩ := bst_spec _ _ _ hb
      have := few1_le hf _ _ _ (Nat.le_refl _) h3
      rw [List.length_drop] at this
      simp only [fb, fv]
      omega
  | some m =>
    have := few1_le hf _ _ _ (Nat.le_refl _) hg
    rw [List.length_drop] at this
    cases hb : bst zss l (few1 zss) k with
    | none => rw [bst_first hk hp hg hb]; simp only [fb, fv]; omega
    | some p =>
      obtain ⟨i, q⟩ := p
      by_cases hlt : m + 1 < q
      · rw [bst_less hk hp hg hb hlt]; simp only [fb, fv]; omega
      · rw [bst_keep hk hp hg hb hlt]; simp only [fb, fv]; omega
theorem fb_le {zss : List (List Int)} (hf : full zss) {l : List Int} (hl : l.length ≤ 20) (k : Nat) : fb (bst zss l (few1 zss) k) ≤ 1000 := by
  cases hb : bst zss l (few1 zss) k with
  | none => simp [fb]
  | some p =>
    obtain ⟨i, q⟩ := p
    obtain ⟨h1, h2, ⟨m, h3, rfl⟩, _⟩ := bst_spec _ _ _ hb
    have := few1_le hf _ _ _ (Nat.le_refl _) h3
    rw [List.length_drop] at this
    simp only [fb]
    omega
theorem fv_le {zss : List (List Int)} (hf : full zss) {l : List Int} (hl : l.length ≤ 20) : fv (few1 zss l) ≤ 1000 := by
  cases hg : few1 zss l with
  | none => simp [fv]
  | some m =>
    have := few1_le hf _ _ _ (Nat.le_refl _) hg
    simp only [fv]
    omega
/-- What the reference's search sees. -/
theorem best_seek {zss : List (List Int)} (hf : full zss) {l : List Int} (hl : l.length ≤ 20) (hl0 : l ≠ []) {i q : Nat} (hb : best1 zss l = some (i, q)) : fv (few1 zss l) = q ∧ i < zss.length ∧ pre (zss.getD i []) l = true ∧ fv (few1 zss (l.drop (zss.getD i []).length)) + 1 = q ∧
    ∀ j, j < i → pre (zss.getD j []) l = true → fv (few1 zss (l.drop (zss.getD j []).length)) + 1 ≠ q := by
  have e : few1 zss l = some q := by rw [few1_step hf hl0, hb]; rfl
  have hq := few1_le hf _ _ _ (Nat.le_refl _) e
  obtain ⟨h1, h2, ⟨m, h3, rfl⟩, h4⟩ := bst_spec _ _ _ hb
  refine ⟨by rw [e]; rfl, h1, h2, by rw [h3]; rfl, fun j hj hp => ?_⟩
  cases hg : few1 zss (l.drop (zss.getD j []).length) with
  | none => simp only [fv]; omega
  | some m' =>
    have := (h4 j m' (by omega) hp hg).2 hj
    simp only [fv]
    omega
end Go.Proofs.Ytpfgjkgjeejghaa.Bk
