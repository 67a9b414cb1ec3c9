/-
  Plain laws of readings: how many ways a ring is made of codes of a book.
  Conditions: the book is valid where said.
-/
import Derived.Test.YtpfgjkgjeejghaaBooks3
namespace Go.Proofs.Ytpfgjkgjeejghaa.Bk
open Go.Proofs.Ytpfgjkgjeejghaa
/-- Whether a list begins with a code. -/
def pre (c l : List Int) : Bool := decide (c.length ≤ l.length) && decide (c = l.take c.length)
/-- The sum over the first k codes that stand at the beginning of a list. -/
def psum (zss : List (List Int)) (l : List Int) (g : List Int → Int) : Nat → Int
  | 0 => 0
  | k + 1 => psum zss l g k + (if pre (zss.getD k []) l = true then g (l.drop (zss.getD k []).length) else 0)
def W (zss : List (List Int)) : Nat → List Int → Int
  | 0, _ => 1
  | f + 1, l => if l = [] then 1 else psum zss l (W zss f) zss.length
/-- How many readings a ring has. -/
def R (zss : List (List Int)) (l : List Int) : Int := W zss l.length l
theorem psum_yes {zss : List (List Int)} {l : List Int} {g : List Int → Int} {k : Nat} {c : List Int} (hk : zss[k]? = some c) (h : pre c l = true) : psum zss l g (k + 1) = psum zss l g k + g (l.drop c.length) := by
  simp only [psum]; rw [getD_at hk, if_pos h]
theorem psum_no {zss : List (List Int)} {l : List Int} {g : List Int → Int} {k : Nat} {c : List Int} (hk : zss[k]? = some c) (h : pre c l = false) : psum zss l g (k + 1) = psum zss l g k := by
  simp only [psum]; rw [getD_at hk, if_neg (by simp [h])]; omega
theorem psum_congr {zss : List (List Int)} {l : List Int} {g h : List Int → Int} : ∀ k, (∀ i, i < k → pre (zss.getD i []) l = true → g (l.drop (zss.getD i []).length) = h (l.drop (zss.getD i []).length)) → psum zss l g k = psum zss l h k
  | 0, _ => rfl
  | k + 1, H => by
    simp only [psum]
    rw [psum_congr k (fun i hi => H i (by omega))]
    by_cases e : pre (zss.getD k []) l = true
    · rw [if_pos e, if_pos e, H k (by omega) e]
    · rw [if_neg e, if_neg e]
/-- No code is empty. -/
def full (zss : List (List Int)) : Prop := ∀ c ∈ zss, 1 ≤ c.length
theorem full_at {zss : List (List Int)} (hf : full zss) {i : Nat} (hi : i < zss.length) : 1 ≤ (zss.getD i []).length := by
  have h := List.getElem?_eq_getElem hi
  rw [getD_at h]
  exact hf _ (List.getElem_mem hi)
theorem valid_full {zss : List (List Int)} (h : valid zss = true) : full zss := by
  intro c hc
  obtain ⟨k, hk⟩ := List.mem_iff_getElem?.1 hc
  exact (Cd.valid_grp (valid_at h hk).1).2.1
theorem W_eq {zss : List (List Int)} (hf : full zss) : ∀ (n f : Nat) (l : List Int), l.length ≤ n → l.length ≤ f → W zss f l = R zss l := by
  intro n
  induction n with
  | zero =>
    intro f l h1 _
    have : l = [] := List.eq_nil_of_length_eq_zero (by omega)
    subst this
    cases f <;> simp [W, R]
  | succ n ih =>
    intro f l h1 h2
    by_cases hl : l = []
    · subst hl; cases f <;> simp [W, R]
    · have hpos : 0 < l.length := List.length_pos_iff.2 hl
      obtain ⟨f', rfl⟩ : ∃ f', f = f' + 1 := ⟨f - 1, by omega⟩
      obtain ⟨m, hm⟩ : ∃ m, l.length = m + 1 := ⟨l.length - 1, by omega⟩
      unfold R
      rw [hm]
      simp only [W]
      rw [if_neg hl, if_neg hl]
      refine psum_congr _ fun i hi _ => ?_
      have hc := full_at hf hi
      rw [ih f' _ (by rw [List.length_drop]; omega) (by rw [List.length_drop]; omega), ih m _ (by rw [List.length_drop]; omega) (by rw [List.length_drop]; omega)]
theorem R_nil (zss : List (List Int)) : R zss [] = 1 := rfl
theorem R_step {zss : List (List Int)} (hf : full zss) {l : List Int} (hl : l ≠ []) : R zss l = psum zss l (R zss) zss.length := by
  have hpos : 0 < l.length := List.length_pos_iff.2 hl
  obtain ⟨m, hm⟩ : ∃ m, l.length = m + 1 := ⟨l.length - 1, by omega⟩
  conv => lhs; unfold R
  rw [hm]
  simp only [W]
  rw [if_neg hl]
  refine psum_congr _ fun i hi _ => ?_
  have hc := full_at hf hi
  exact W_eq hf m m _ (by rw [List.length_drop]; omega) (by rw [List.length_drop]; omega)
theorem len_split {α : Type} (p : α → Bool) : ∀ l : List α, l.length = (l.filter p).length + (l.filter fun x => !p x).length
  | [] => rfl
  | a :: l => by
    have := len_split p l
    cases h : p a <;> simp [h] <;> omega
theorem one_of_same {α : Type} {a : α} : ∀ {l : List α}, l.Nodup → (∀ x ∈ l, x = a) → l.length ≤ 1
  | [], _, _ => by simp
  | [x], _, _ => by simp
  | x :: y :: l, h, hs => by
    exfalso
    have h1 := hs x (by simp)
    have h2 := hs y (by simp)
    rw [List.nodup_cons] at h
    exact h.1 (by rw [h1, ← h2]; simp)
theorem few {l : List Int} : ∀ (L : Nat) (cs : List (List Int)), cs.Nodup → (∀ c ∈ cs, pre c l = true ∧ 1 ≤ c.length ∧ c.length ≤ L) → cs.length ≤ L
  | 0, [], _, _ => by simp
  | 0, c :: cs, _, h => by have := h c (by simp); omega
  | L + 1, cs, hn, h => by
    have e := len_split (fun c : List Int => decide (c.length = L + 1)) cs
    have h1 : (cs.filter fun c => decide (c.length = L + 1)).length ≤ 1 := by
      refine one_of_same (a := l.take (L + 1)) (hn.filter _) ?_
      intro c hc
      rw [List.mem_filter, decide_eq_true_eq] at hc
      have := (h c hc.1).1
      unfold pre at this
      simp only [Bool.and_eq_true, decide_eq_true_eq] at this
      rw [hc.2] at this
      exact this.2
    have h2 : (cs.filter fun c => !decide (c.length = L + 1)).length ≤ L := by
      refine few (l := l) L _ (hn.filter _) ?_
      intro c hc
      rw [List.mem_filter] at hc
      have h3 := h c hc.1
      have h4 : ¬ c.length = L + 1 := by simpa using hc.2
      exact ⟨h3.1, h3.2.1, by omega⟩
    omega
theorem nodup_take {zss : List (List Int)} (h : valid zss = true) : ∀ k, (zss.take k).Nodup
  | 0 => by simp
  | k + 1 => by
    by_cases hk : k < zss.length
    · have hz := List.getElem?_eq_getElem hk
      rw [take_snoc hz, List.nodup_append]
      refine ⟨nodup_take h k, by simp, ?_⟩
      intro a ha b hb
      simp at hb
      subst hb
      intro e
      subst e
      exact (valid_at h hz).2 ha
    · rw [List.take_of_length_le (by omega)]
      have := nodup_take h k
      rw [List.take_of_length_le (by omega)] at this
      exact this
theorem match_few {zss : List (List Int)} (h : valid zss = true) (l : List Int) (k : Nat) : ((zss.take k).filter fun c => pre c l).length ≤ 5 := by
  refine few (l := l) 5 _ ((nodup_take h k).filter _) ?_
  intro c hc
  rw [List.mem_filter] at hc
  obtain ⟨i, hi⟩ := List.mem_iff_getElem?.1 (List.mem_of_mem_take hc.1)
  have := (Cd.valid_grp (valid_at h hi).1).2
  exact ⟨hc.2, this.1, this.2⟩
theorem psum_bd {zss : List (List Int)} {l : List Int} {g : List Int → Int} {M : Int} (hM : 0 ≤ M) : ∀ k, k ≤ zss.length → (∀ i, i < k → pre (zss.getD i []) l = true → 0 ≤ g (l.drop (zss.getD i []).length) ∧ g (l.drop (zss.getD i []).length) ≤ M) →
    0 ≤ psum zss l g k ∧ psum zss l g k ≤ M * (((zss.take k).filter fun c => pre c l).length : Int)
  | 0, _, _ => by simp [psum]
  | k + 1, hk, H => by
    have ih := psum_bd hM k (by omega) (fun i hi => H i (by omega))
    have hz := List.getElem?_eq_getElem (show k < zss.length by omega)
    rw [take_snoc hz, List.filter_append]
    have hg := getD_at hz
    cases e : pre zss[k] l
    · rw [psum_no hz e]
      simp [e]
      exact ih
    · rw [psum_yes hz e]
      have := H k (by omega) (by rw [hg]; exact e)
      rw [hg] at this
      simp [e, Int.mul_add]
      omega
theorem R_bd {zss : List (List Int)} (h : valid zss = true) : ∀ (n : Nat) (l : List Int), l.length ≤ n → 0 ≤ R zss l ∧ R zss l ≤ 5 ^ l.length := by
  intro n
  induction n with
  | zero =>
    intro l hl
    have : l = [] := List.eq_nil_of_length_eq_zero (by omega)
    subst this
    rw [R_nil]; simp
  | succ n ih =>
    intro l hl
    by_cases hl0 : l = []
    · subst hl0; rw [R_nil]; simp
    · have hpos : 0 < l.length := List.length_pos_iff.2 hl0
      obtain ⟨m, hm⟩ : ∃ m, l.length = m + 1 := ⟨l.length - 1, by omega⟩
      rw [R_step (valid_full h) hl0]
      have hp : (0 : Int) ≤ 5 ^ m := Int.pow_nonneg (by omega)
      have hb := psum_bd (zss := zss) (l := l) (g := R zss) (M := 5 ^ m) hp zss.length (Nat.le_refl _) (fun i hi _ => by
        have hc := full_at (valid_full h) hi
        have h1 := ih (l.drop (zss.getD i []).length) (by rw [List.length_drop]; omega)
        refine ⟨h1.1, Int.le_trans h1.2 ?_⟩
        have : (l.drop (zss.getD i []).length).length ≤ m := by rw [List.length_drop]; omega
        exact_mod_cast Nat.pow_le_pow_right (by omega) this)
      refine ⟨hb.1, Int.le_trans hb.2 ?_⟩
      have h5 := match_few h l zss.length
      rw [hm, Int.pow_succ]
      exact Int.mul_le_mul_of_nonneg_left (by omega) hp
/-- All sums stay small. -/
theorem psum_small {zss : List (List Int)} (h : valid zss = true) {l : List Int} (hl : l.length ≤ 20) {k : Nat} (hk : k ≤ zss.length) : 0 ≤ psum zss l (R zss) k ∧ psum zss l (R zss) k ≤ 500000000000000 := by
  have e : (5 : Int) ^ 20 = 95367431640625 := by decide
  have hb := psum_bd (zss := zss) (l := l) (g := R zss) (M := 95367431640625) (by omega) k hk (fun i hi _ => by
    have h1 := R_bd h _ (l.drop (zss.getD i []).length) (Nat.le_refl _)
    refine ⟨h1.1, Int.le_trans h1.2 ?_⟩
    rw [← e]
    have : (l.drop (zss.getD i []).length).length ≤ 20 := by rw [List.length_drop]; omega
    exact_mod_cast Nat.pow_le_pow_right (by omega) this)
  have h5 := match_few h l k
  refine ⟨hb.1, Int.le_trans hb.2 ?_⟩
  have : (95367431640625 : Int) * (((zss.take k).filter fun c => pre c l).length : Int) ≤ 95367431640625 * 5 := Int.mul_le_mul_of_nonneg_left (by omega) (by omega)
  omega
theorem R_small {zss : List (List Int)} (h : valid zss = true) {l : List Int} (hl : l.length ≤ 20) : 0 ≤ R zss l ∧ R zss l ≤ 100000000000000 := by
  have h1 := R_bd h _ l (Nat.le_refl _)
  refine ⟨h1.1, Int.le_trans h1.2 ?_⟩
  have e : (5 : Int) ^ 20 = 95367431640625 := by decide
  have : (5 : Int) ^ l.length ≤ 5 ^ 20 := by exact_mod_cast Nat.pow_le_pow_right (by omega) hl
  omega
/-- Whether a list is a ring. -/
def ring (l : List Int) : Bool := l.all Cd.inB && decide (l.length ≤ 20)
/-- What BookReadings returns. -/
def reads (zss : List (List Int)) (l : List Int) : Int := if valid zss = true ∧ ring l = true then R zss l else -1
theorem reads_yes {zss : List (List Int)} {l : List Int} (h : valid zss = true) (hr : ring l = true) : reads zss l = R zss l := by unfold reads; rw [if_pos ⟨h, hr⟩]
theorem reads_no {zss : List (List Int)} {l : List Int} (h : ¬ (valid zss = true ∧ ring l = true)) : reads zss l = -1 := by unfold reads; rw [if_neg h]
theorem ring_parts {l : List Int} (h : ring l = true) : Cd.grp l ∧ l.length ≤ 20 := by
  unfold ring at h
  simp only [Bool.and_eq_true, decide_eq_true_eq, List.all_eq_true] at h
  exact ⟨fun z hz => (Cd.inB_iff z).1 (h.1 z hz), h.2⟩
theorem pre_bstr {a b : List Int} (ha : Cd.grp a) (hb : Cd.grp b) : Cd.pre (bstr a) (bstr b) = pre a b := Cd.pre_bstr ha hb
theorem grp_drop {l : List Int} (h : Cd.grp l) (k : Nat) : Cd.grp (l.drop k) := fun z hz => h z (List.mem_of_mem_drop hz)
theorem pre_len {c l : List Int} (h : pre c l = true) : c.length ≤ l.length := by unfold pre at h; simp only [Bool.and_eq_true, decide_eq_true_eq] at h; exact h.1
theorem bstr_drop (l : List Int) (k : Nat) : (bstr l).extract k (bstr l).size = bstr (l.drop k) := by
  have h : ((bstr l).extract k (bstr l).size).data = (bstr (l.drop k)).data := by
    simp [bstr, ByteArray.size]
    exact List.take_of_length_le (by simp)
  cases h1 : (bstr l).extract k (bstr l).size
  cases h2 : bstr (l.drop k)
  rw [h1, h2] at h
  simpa using h
end Go.Proofs.Ytpfgjkgjeejghaa.Bk
