/-
  Plain laws of bell codes, with no program in sight: how many codes there are (M), sums of such counts (S), the rank of a code (rk), the code of a rank (nth), and that rank and code belong to each other, in the order of the codes.
  No condition besides those that each lemma names.
-/
namespace Go.Proofs.Ytmplanlppjebnaa.Cd

/-- How many lists of at most g groups of 1 to 6 beats have n beats. -/
def M : Nat → Int → Int
  | 0, n => if n = 0 then 1 else 0
  | g + 1, n => if n = 0 then 1 else if n < 0 then 0 else M g (n - 1) + M g (n - 2) + M g (n - 3) + M g (n - 4) + M g (n - 5) + M g (n - 6)

/-- The counts behind a first group of 1 to k beats. -/
def S (g : Nat) (n : Int) : Nat → Int
  | 0 => 0
  | k + 1 => S g n k + M g (n - (k + 1 : Nat))

theorem M_zero (g : Nat) : M g 0 = 1 := by cases g <;> simp [M]
theorem M_neg (g : Nat) (n : Int) (h : n < 0) : M g n = 0 := by
  cases g with
  | zero => simp only [M]; rw [if_neg (by omega)]
  | succ g => simp only [M]; rw [if_neg (by omega), if_pos h]
theorem M_none (n : Int) (h : n ≠ 0) : M 0 n = 0 := by simp only [M]; rw [if_neg h]
theorem M_step (g : Nat) (n : Int) (h : 0 < n) : M (g + 1) n = S g n 6 := by
  simp only [M, S]
  rw [if_neg (by omega), if_neg (by omega)]
  simp
theorem M_bd (g : Nat) : ∀ n, 0 ≤ M g n ∧ M g n ≤ 6 ^ g := by
  induction g with
  | zero => intro n; simp only [M]; split <;> simp
  | succ g ih =>
    intro n
    have h1 := ih (n - 1)
    have h2 := ih (n - 2)
    have h3 := ih (n - 3)
    have h4 := ih (n - 4)
    have h5 := ih (n - 5)
    have h6 := ih (n - 6)
    have hp : (1 : Int) ≤ 6 ^ g := by have := Int.pow_pos (n := 6) (m := g) (by omega); omega
    have hq : (6 : Int) ^ (g + 1) = 6 ^ g * 6 := Int.pow_succ _ _
    simp only [M]
    split
    · omega
    · split
      · omega
      · omega
theorem M_nonneg (g : Nat) (n : Int) : 0 ≤ M g n := (M_bd g n).1
theorem M_le (g : Nat) (n : Int) (hg : g ≤ 5) : M g n ≤ 7776 := by
  have h := (M_bd g n).2
  have : g = 0 ∨ g = 1 ∨ g = 2 ∨ g = 3 ∨ g = 4 ∨ g = 5 := by omega
  rcases this with rfl | rfl | rfl | rfl | rfl | rfl <;> simp at h <;> omega
theorem M_pos (g : Nat) : ∀ n : Int, 0 ≤ n → n ≤ 6 * (g : Int) → 1 ≤ M g n := by
  induction g with
  | zero => intro n h0 h1; have : n = 0 := by omega
            subst this; simp [M]
  | succ g ih =>
    intro n h0 h1
    have z := M_zero g
    have k1 := M_nonneg g (n - 1)
    have k2 := M_nonneg g (n - 2)
    have k3 := M_nonneg g (n - 3)
    have k4 := M_nonneg g (n - 4)
    have k5 := M_nonneg g (n - 5)
    have k6 := M_nonneg g (n - 6)
    simp only [M]
    split
    · omega
    · split
      · omega
      · by_cases h : n ≤ 6
        · have : n = 1 ∨ n = 2 ∨ n = 3 ∨ n = 4 ∨ n = 5 ∨ n = 6 := by omega
          rcases this with rfl | rfl | rfl | rfl | rfl | rfl <;> simp only [Int.reduceSub] at * <;> omega
        · have := ih (n - 6) (by omega) (by omega)
          omega
theorem M_le0 {g : Nat} {n : Int} (h : 0 < M g n) : 0 ≤ n := by
  by_cases hn : n < 0
  · have := M_neg g n hn; omega
  · omega

theorem S_succ (g : Nat) (n : Int) (k : Nat) : S g n (k + 1) = S g n k + M g (n - (k + 1 : Nat)) := rfl
theorem S_step (g : Nat) (n : Int) (k : Nat) (h : 1 ≤ k) : S g n k = S g n (k - 1) + M g (n - k) := by
  obtain ⟨j, rfl⟩ : ∃ j, k = j + 1 := ⟨k - 1, by omega⟩
  exact S_succ g n j
theorem S_mono (g : Nat) (n : Int) {i j : Nat} (h : i ≤ j) : S g n i ≤ S g n j := by
  induction j with
  | zero => have : i = 0 := by omega
            subst this; exact Int.le_refl _
  | succ j ih =>
    by_cases e : i = j + 1
    · subst e; exact Int.le_refl _
    · have := ih (by omega)
      have := M_nonneg g (n - (j + 1 : Nat))
      rw [S_succ]; omega
theorem S_nonneg (g : Nat) (n : Int) (k : Nat) : 0 ≤ S g n k := S_mono g n (Nat.zero_le k)
theorem S_le (g : Nat) (n : Int) (k : Nat) (hg : g ≤ 5) : S g n k ≤ k * 7776 := by
  induction k with
  | zero => simp [S]
  | succ k ih => have := M_le g (n - (k + 1 : Nat)) hg; rw [S_succ]; omega

/-- The first group of the code of rank r. -/
def cnt (g : Nat) (n r : Int) : Nat :=
  if r < S g n 1 then 1 else if r < S g n 2 then 2 else if r < S g n 3 then 3 else if r < S g n 4 then 4 else if r < S g n 5 then 5 else 6
theorem cnt_spec (g : Nat) (n r : Int) (h0 : 0 ≤ r) (h : r < S g n 6) : 1 ≤ cnt g n r ∧ cnt g n r ≤ 6 ∧ S g n (cnt g n r - 1) ≤ r ∧ r < S g n (cnt g n r) := by
  have e0 : S g n 0 = 0 := rfl
  unfold cnt
  repeat' split
  all_goals (simp only [Nat.reduceSub]; omega)
theorem cnt_unique (g : Nat) (n r : Int) (c : Nat) (h0 : 0 ≤ r) (h1 : 1 ≤ c) (h6 : c ≤ 6) (ha : S g n (c - 1) ≤ r) (hb : r < S g n c) : cnt g n r = c := by
  have hm := S_mono g n h6
  obtain ⟨d1, d2, d3, d4⟩ := cnt_spec g n r h0 (by omega)
  rcases Nat.lt_trichotomy (cnt g n r) c with h | h | h
  · have := S_mono g n (i := cnt g n r) (j := c - 1) (by omega); omega
  · exact h
  · have := S_mono g n (i := c) (j := cnt g n r - 1) (by omega); omega

/-- The code of n beats with rank r, of at most g groups. -/
def nth : Nat → Int → Int → List Int
  | 0, _, _ => []
  | g + 1, n, r => if n ≤ 0 then [] else (cnt g n r : Int) :: nth g (n - cnt g n r) (r - S g n (cnt g n r - 1))
theorem nth_zero (g : Nat) (n r : Int) (h : n ≤ 0) : nth g n r = [] := by
  cases g with
  | zero => rfl
  | succ g => simp only [nth]; rw [if_pos h]
theorem nth_succ (g : Nat) (n r : Int) (h : 0 < n) : nth (g + 1) n r = (cnt g n r : Int) :: nth g (n - cnt g n r) (r - S g n (cnt g n r - 1)) := by
  simp only [nth]; rw [if_neg (by omega)]

def sum : List Int → Int
  | [] => 0
  | c :: cs => c + sum cs
/-- The rank of a code, of at most g groups. -/
def rk : Nat → List Int → Int
  | _, [] => 0
  | g, c :: cs => S (g - 1) (sum (c :: cs)) (c - 1).toNat + rk (g - 1) cs

def grp (zs : List Int) : Prop := ∀ z ∈ zs, 1 ≤ z ∧ z ≤ 6
theorem grp_cons {c : Int} {cs : List Int} : grp (c :: cs) ↔ (1 ≤ c ∧ c ≤ 6) ∧ grp cs := by simp [grp]
theorem sum_ge {zs : List Int} (h : grp zs) : (zs.length : Int) ≤ sum zs := by
  induction zs with
  | nil => simp [sum]
  | cons c cs ih =>
    obtain ⟨h1, h2⟩ := grp_cons.1 h
    have := ih h2
    simp only [sum, List.length_cons]; omega
theorem sum_le {zs : List Int} (h : grp zs) : sum zs ≤ 6 * zs.length := by
  induction zs with
  | nil => simp [sum]
  | cons c cs ih =>
    obtain ⟨h1, h2⟩ := grp_cons.1 h
    have := ih h2
    simp only [sum, List.length_cons]; omega
theorem sum_append (a b : List Int) : sum (a ++ b) = sum a + sum b := by
  induction a with
  | nil => simp [sum]
  | cons c cs ih => simp only [List.cons_append, sum, ih]; omega
theorem sum_reverse (a : List Int) : sum a.reverse = sum a := by
  induction a with
  | nil => rfl
  | cons c cs ih => simp only [List.reverse_cons, sum_append, ih, sum]; omega

theorem rk_lt : ∀ (zs : List Int) (g : Nat), grp zs → zs.length ≤ g → 0 ≤ rk g zs ∧ rk g zs < M g (sum zs)
  | [], g, _, _ => by simp [rk, sum, M_zero]
  | c :: cs, g, h, hl => by
    obtain ⟨⟨h1, h6⟩, h2⟩ := grp_cons.1 h
    simp only [List.length_cons] at hl
    obtain ⟨g', rfl⟩ : ∃ g', g = g' + 1 := ⟨g - 1, by omega⟩
    obtain ⟨i1, i2⟩ := rk_lt cs g' h2 (by omega)
    have hs := sum_ge h2
    have hpos : 0 < sum (c :: cs) := by simp only [sum]; omega
    rw [M_step g' _ hpos]
    simp only [rk, Nat.add_sub_cancel]
    have e := S_step g' (sum (c :: cs)) c.toNat (by omega)
    have e1 : sum (c :: cs) - (c.toNat : Int) = sum cs := by simp only [sum]; omega
    have e2 : (c - 1).toNat = c.toNat - 1 := by omega
    rw [e1] at e
    rw [e2]
    have m := S_mono g' (sum (c :: cs)) (i := c.toNat) (j := 6) (by omega)
    have n := S_nonneg g' (sum (c :: cs)) (c.toNat - 1)
    omega
theorem rk_step {g : Nat} {c : Int} {cs : List Int} (h : grp (c :: cs)) (hl : cs.length ≤ g) :
    0 < sum (c :: cs) ∧ cnt g (sum (c :: cs)) (rk (g + 1) (c :: cs)) = c.toNat := by
  obtain ⟨⟨h1, h6⟩, h2⟩ := grp_cons.1 h
  have hs := sum_ge h2
  have hpos : 0 < sum (c :: cs) := by simp only [sum]; omega
  refine ⟨hpos, ?_⟩
  obtain ⟨i1, i2⟩ := rk_lt cs g h2 hl
  have e := S_step g (sum (c :: cs)) c.toNat (by omega)
  have e1 : sum (c :: cs) - (c.toNat : Int) = sum cs := by simp only [sum]; omega
  have e2 : (c - 1).toNat = c.toNat - 1 := by omega
  rw [e1] at e
  have n := S_nonneg g (sum (c :: cs)) (c.toNat - 1)
  have er : rk (g + 1) (c :: cs) = S g (sum (c :: cs)) (c.toNat - 1) + rk g cs := by simp only [rk, Nat.add_sub_cancel, e2]
  refine cnt_unique g _ _ c.toNat ?_ (by omega) (by omega) ?_ ?_ <;> rw [er] <;> omega
theorem nth_rk : ∀ (zs : List Int) (g : Nat), grp zs → zs.length ≤ g → nth g (sum zs) (rk g zs) = zs
  | [], g, _, _ => nth_zero g _ _ (by simp [sum])
  | c :: cs, g, h, hl => by
    simp only [List.length_cons] at hl
    obtain ⟨g', rfl⟩ : ∃ g', g = g' + 1 := ⟨g - 1, by omega⟩
    obtain ⟨hpos, hc⟩ := rk_step h (g := g') (by omega)
    obtain ⟨⟨h1, h6⟩, h2⟩ := grp_cons.1 h
    have ih := nth_rk cs g' h2 (by omega)
    rw [nth_succ g' _ _ hpos, hc]
    have e2 : (c - 1).toNat = c.toNat - 1 := by omega
    have er : rk (g' + 1) (c :: cs) - S g' (sum (c :: cs)) (c.toNat - 1) = rk g' cs := by simp only [rk, Nat.add_sub_cancel, e2]; omega
    have e1 : sum (c :: cs) - (c.toNat : Int) = sum cs := by simp only [sum]; omega
    rw [er, e1, ih]
    congr 1
    omega
theorem rk_nth : ∀ (g : Nat) (n r : Int), 0 ≤ n → 0 ≤ r → r < M g n → grp (nth g n r) ∧ (nth g n r).length ≤ g ∧ sum (nth g n r) = n ∧ rk g (nth g n r) = r
  | 0, n, r, h0, hr, h => by
    have hn : n = 0 := by
      by_cases e : n = 0
      · exact e
      · rw [M_none n e] at h; omega
    subst hn
    have hr' : r = 0 := by simp [M] at h; omega
    subst hr'
    simp [nth, grp, sum, rk]
  | g + 1, n, r, h0, hr, h => by
    by_cases hn : n = 0
    · subst hn
      rw [M_zero] at h
      have hr' : r = 0 := by omega
      subst hr'
      rw [nth_zero _ _ _ (Int.le_refl 0)]
      simp [grp, sum, rk]
    · rw [M_step g n (by omega)] at h
      obtain ⟨c1, c6, ca, cb⟩ := cnt_spec g n r hr h
      rw [nth_succ g n r (by omega)]
      generalize cnt g n r = c at *
      have e := S_step g n c c1
      have hm : r - S g n (c - 1) < M g (n - c) := by omega
      have hge : 0 ≤ n - c := M_le0 (by omega : 0 < M g (n - c))
      obtain ⟨i1, i2, i3, i4⟩ := rk_nth g (n - c) (r - S g n (c - 1)) hge (by omega) hm
      refine ⟨grp_cons.2 ⟨by omega, i1⟩, by simp only [List.length_cons]; omega, by simp only [sum, i3]; omega, ?_⟩
      simp only [rk, Nat.add_sub_cancel, i4, sum, i3]
      have e2 : ((c : Int) - 1).toNat = c - 1 := by omega
      have e3 : (c : Int) + (n - c) = n := by omega
      rw [e2, e3]
      omega

/-- The first group that differs is the lesser one. -/
def lexLt : List Int → List Int → Prop
  | a :: as, b :: bs => a < b ∨ (a = b ∧ lexLt as bs)
  | _, _ => False
theorem cnt_mono (g : Nat) (n r r' : Int) (h0 : 0 ≤ r) (h : r ≤ r') (h' : r' < S g n 6) : cnt g n r ≤ cnt g n r' := by
  obtain ⟨a1, a2, a3, a4⟩ := cnt_spec g n r h0 (by omega)
  obtain ⟨b1, b2, b3, b4⟩ := cnt_spec g n r' (by omega) h'
  rcases Nat.lt_or_ge (cnt g n r') (cnt g n r) with k | k
  · have := S_mono g n (i := cnt g n r') (j := cnt g n r - 1) (by omega); omega
  · exact k
theorem nth_lt : ∀ (g : Nat) (n r r' : Int), 0 ≤ n → 0 ≤ r → r < r' → r' < M g n → lexLt (nth g n r) (nth g n r')
  | 0, n, r, r', h0, hr, hlt, h => by
    by_cases e : n = 0
    · subst e; simp [M] at h; omega
    · rw [M_none n e] at h; omega
  | g + 1, n, r, r', h0, hr, hlt, h => by
    by_cases hn : n = 0
    · subst hn; rw [M_zero] at h; omega
    · rw [M_step g n (by omega)] at h
      obtain ⟨a1, a2, a3, a4⟩ := cnt_spec g n r hr (by omega)
      obtain ⟨b1, b2, b3, b4⟩ := cnt_spec g n r' (by omega) h
      have hm := cnt_mono g n r r' hr (by omega) h
      rw [nth_succ g n r (by omega), nth_succ g n r' (by omega)]
      by_cases e : cnt g n r = cnt g n r'
      · rw [e] at a1 a2 a3 a4 ⊢
        generalize cnt g n r' = c at *
        have es := S_step g n c b1
        have hge : 0 ≤ n - c := M_le0 (by omega : 0 < M g (n - c))
        exact .inr ⟨rfl, nth_lt g (n - c) _ _ hge (by omega) (by omega) (by omega)⟩
      · exact .inl (by omega)

theorem S_past (g : Nat) (n : Int) (h0 : 0 ≤ n) : ∀ k : Nat, n.toNat ≤ k → S g n k = S g n n.toNat := by
  intro k
  induction k with
  | zero => intro h; have : n.toNat = 0 := by omega
            rw [this]
  | succ k ih =>
    intro h
    by_cases e : n.toNat = k + 1
    · rw [e]
    · rw [S_succ, ih (by omega), M_neg g _ (by omega)]; omega

/-- The last code of n beats begins with as great a group as can be. -/
theorem last_head (g : Nat) (n : Int) (h1 : 1 ≤ n) (h2 : n ≤ 6 * ((g : Int) + 1)) : cnt g n (M (g + 1) n - 1) = (min n 6).toNat := by
  have hs := M_step g n (by omega)
  have hp : 1 ≤ M g (n - (min n 6).toNat) := M_pos g _ (by omega) (by omega)
  have e := S_step g n (min n 6).toNat (by omega)
  have m := S_mono g n (i := (min n 6).toNat) (j := 6) (by omega)
  have hz : S g n 6 = S g n (min n 6).toNat := by
    by_cases h : 6 ≤ n
    · have : (min n 6).toNat = 6 := by omega
      rw [this]
    · have : (min n 6).toNat = n.toNat := by omega
      rw [this]
      exact S_past g n (by omega) 6 (by omega)
  have n0 := S_nonneg g n ((min n 6).toNat - 1)
  refine cnt_unique g n _ _ ?_ (by omega) (by omega) ?_ ?_ <;> rw [hs, hz] <;> omega

end Go.Proofs.Ytmplanlppjebnaa.Cd
