/-
  Plain laws of a stable sort by insertion and by merging in place (SymMerge): what keeps the moves of each section in their order, what is sorted. No program in sight.
-/
namespace Go.Proofs.Ytmplanlppjebnaa.So
set_option linter.unusedVariables false
/-- A move: its section and its text. -/
abbrev Mv := Int × ByteArray
def fk (k : Int) (xs : List Mv) : List Mv := xs.filter fun p => p.1 == k
theorem fk_append (k : Int) (xs ys : List Mv) : fk k (xs ++ ys) = fk k xs ++ fk k ys := List.filter_append ..
/-- As long, and for each section the same moves in the same order. -/
def Stab (xs ys : List Mv) : Prop := ys.length = xs.length ∧ ∀ k, fk k ys = fk k xs
theorem Stab.refl (xs : List Mv) : Stab xs xs := ⟨rfl, fun _ => rfl⟩
theorem Stab.trans {xs ys zs : List Mv} (h : Stab xs ys) (k : Stab ys zs) : Stab xs zs := ⟨k.1.trans h.1, fun i => (k.2 i).trans (h.2 i)⟩
/-- Sorted from place lo up to place hi. -/
def Seg (xs : List Mv) (lo hi : Nat) : Prop := ∀ i j (p q : Mv), lo ≤ i → i ≤ j → j < hi → xs[i]? = some p → xs[j]? = some q → p.1 ≤ q.1
/-- Nothing changes outside. -/
def Out (lo hi : Nat) (xs ys : List Mv) : Prop := ∀ j, j < lo ∨ hi ≤ j → ys[j]? = xs[j]?
theorem Out.refl (lo hi : Nat) (xs : List Mv) : Out lo hi xs xs := fun _ _ => rfl
theorem Out.trans {lo hi : Nat} {xs ys zs : List Mv} (h : Out lo hi xs ys) (k : Out lo hi ys zs) : Out lo hi xs zs := fun j hj => (k j hj).trans (h j hj)
theorem Out.mono {lo hi lo' hi' : Nat} {xs ys : List Mv} (h : Out lo hi xs ys) (h1 : lo' ≤ lo) (h2 : hi ≤ hi') : Out lo' hi' xs ys := fun j hj => h j (by omega)
theorem Seg.out {xs ys : List Mv} {lo hi l h : Nat} (s : Seg xs l h) (o : Out lo hi xs ys) (hd : h ≤ lo ∨ hi ≤ l) : Seg ys l h := by
  intro i j p q h1 h2 h3 hp hq
  rw [o i (by omega)] at hp
  rw [o j (by omega)] at hq
  exact s i j p q h1 h2 h3 hp hq
theorem Seg.empty (xs : List Mv) {lo hi : Nat} (h : hi ≤ lo + 1) : Seg xs lo hi := by
  intro i j p q h1 h2 h3 hp hq
  have : i = j := by omega
  subst this
  rw [hp] at hq
  cases hq
  exact Int.le_refl _
theorem Seg.mono {xs : List Mv} {lo hi lo' hi' : Nat} (s : Seg xs lo hi) (h1 : lo ≤ lo') (h2 : hi' ≤ hi) : Seg xs lo' hi' := fun i j p q a b c => s i j p q (by omega) b (by omega)
theorem swap_split {xs : List Mv} {j : Nat} {x y : Mv} (hy : xs[j]? = some y) (hx : xs[j + 1]? = some x) : xs = xs.take j ++ y :: x :: xs.drop (j + 2) ∧ (xs.set j x).set (j + 1) y = xs.take j ++ x :: y :: xs.drop (j + 2) := by
  obtain ⟨h1, e1⟩ := List.getElem?_eq_some_iff.1 hy
  obtain ⟨h2, e2⟩ := List.getElem?_eq_some_iff.1 hx
  have e : xs = xs.take j ++ y :: x :: xs.drop (j + 2) := by
    conv => lhs; rw [← List.take_append_drop j xs, List.drop_eq_getElem_cons h1, e1, List.drop_eq_getElem_cons h2, e2]
  refine ⟨e, ?_⟩
  have hl : (xs.take j).length = j := by rw [List.length_take]; omega
  conv => lhs; rw [e]
  rw [List.set_append_right _ _ (by omega), hl, Nat.sub_self, List.set_cons_zero, List.set_append_right _ _ (by omega), hl, show j + 1 - j = 1 by omega]
  rfl
theorem stab_swap {xs : List Mv} {j : Nat} {x y : Mv} (hy : xs[j]? = some y) (hx : xs[j + 1]? = some x) (hne : x.1 ≠ y.1) : Stab xs ((xs.set j x).set (j + 1) y) := by
  obtain ⟨e, e'⟩ := swap_split hy hx
  refine ⟨by simp, fun k => ?_⟩
  rw [e']
  conv => rhs; rw [e]
  rw [fk_append, fk_append]
  congr 1
  unfold fk
  by_cases hxk : x.1 = k
  · have hyk : ¬ y.1 = k := fun h => hne (by rw [hxk, h])
    simp [hxk, hyk]
  · by_cases hyk : y.1 = k
    · simp [hxk, hyk]
    · simp [hxk, hyk]
/-- Two neighbouring pieces, from a to m and from m to b, change their places. -/
def Rot (a m b : Nat) (xs ys : List Mv) : Prop := ys.length = xs.length ∧ ∀ j, ys[j]? = if a ≤ j ∧ j < a + (b - m) then xs[m + (j - a)]? else if a + (b - m) ≤ j ∧ j < b then xs[a + (j - (a + (b - m)))]? else xs[j]?
theorem rot_out {a m b : Nat} {xs ys : List Mv} (h1 : a ≤ m) (h2 : m ≤ b) (h : Rot a m b xs ys) : Out a b xs ys := by
  intro j hj
  rw [h.2 j, if_neg (by omega), if_neg (by omega)]
theorem rot_eq {a m b : Nat} {xs ys : List Mv} (h1 : a ≤ m) (h2 : m ≤ b) (h3 : b ≤ xs.length) (h : Rot a m b xs ys) : ys = xs.take a ++ (((xs.drop m).take (b - m)) ++ (((xs.drop a).take (m - a)) ++ xs.drop b)) := by
  apply List.ext_getElem?
  intro j
  rw [h.2 j]
  have l1 : (xs.take a).length = a := by rw [List.length_take]; omega
  have l2 : ((xs.drop m).take (b - m)).length = b - m := by rw [List.length_take, List.length_drop]; omega
  have l3 : ((xs.drop a).take (m - a)).length = m - a := by rw [List.length_take, List.length_drop]; omega
  by_cases c1 : j < a
  · rw [if_neg (by omega), if_neg (by omega), List.getElem?_append_left (by omega), List.getElem?_take, if_pos c1]
  · rw [List.getElem?_append_right (by omega), l1]
    by_cases c2 : j < a + (b - m)
    · rw [if_pos ⟨by omega, c2⟩, List.getElem?_append_left (by omega), List.getElem?_take, if_pos (by omega), List.getElem?_drop]
    · rw [if_neg (by omega), List.getElem?_append_right (by omega), l2]
      by_cases c3 : j < b
      · rw [if_pos ⟨by omega, c3⟩, List.getElem?_append_left (by omega), List.getElem?_take, if_pos (by omega), List.getElem?_drop]
        congr 1
        omega
      · rw [if_neg (by omega), List.getElem?_append_right (by omega), l3, List.getElem?_drop]
        congr 1
        omega
theorem parts {a m b : Nat} {xs : List Mv} (h1 : a ≤ m) (h2 : m ≤ b) (h3 : b ≤ xs.length) : xs = xs.take a ++ (((xs.drop a).take (m - a)) ++ (((xs.drop m).take (b - m)) ++ xs.drop b)) := by
  have e1 : xs.drop m = (xs.drop m).take (b - m) ++ xs.drop b := by
    conv => lhs; rw [← List.take_append_drop (b - m) (xs.drop m), List.drop_drop]
    rw [show m + (b - m) = b by omega]
  have e2 : xs.drop a = (xs.drop a).take (m - a) ++ xs.drop m := by
    conv => lhs; rw [← List.take_append_drop (m - a) (xs.drop a), List.drop_drop]
    rw [show a + (m - a) = m by omega]
  conv => lhs; rw [← List.take_append_drop a xs, e2, e1]
theorem mem_part {a m : Nat} {xs : List Mv} {p : Mv} (h : p ∈ (xs.drop a).take (m - a)) : ∃ i, a ≤ i ∧ i < m ∧ xs[i]? = some p := by
  obtain ⟨i, hi⟩ := List.mem_iff_getElem?.1 h
  rw [List.getElem?_take] at hi
  split at hi
  · rw [List.getElem?_drop] at hi
    exact ⟨a + i, by omega, by omega, hi⟩
  · cases hi
theorem stab_rot {a m b : Nat} {xs ys : List Mv} (h1 : a ≤ m) (h2 : m ≤ b) (h3 : b ≤ xs.length) (h : Rot a m b xs ys) (hlt : ∀ i j (p q : Mv), a ≤ i → i < m → m ≤ j → j < b → xs[i]? = some p → xs[j]? = some q → q.1 < p.1) : Stab xs ys := by
  refine ⟨h.1, fun k => ?_⟩
  rw [rot_eq h1 h2 h3 h]
  conv => rhs; rw [parts h1 h2 h3]
  simp only [fk_append]
  congr 1
  rw [← List.append_assoc, ← List.append_assoc]
  congr 1
  by_cases hA : fk k ((xs.drop a).take (m - a)) = []
  · rw [hA]; simp
  · have hB : fk k ((xs.drop m).take (b - m)) = [] := by
      unfold fk at hA ⊢
      rw [List.filter_eq_nil_iff]
      intro q hq hqk
      obtain ⟨p, hp⟩ := List.exists_mem_of_ne_nil _ hA
      obtain ⟨hp1, hpk⟩ := List.mem_filter.1 hp
      obtain ⟨i, i1, i2, i3⟩ := mem_part hp1
      obtain ⟨j, j1, j2, j3⟩ := mem_part hq
      have := hlt i j p q i1 i2 j1 j2 i3 j3
      simp at hpk hqk
      omega
    rw [hB]; simp
/-- What lies in a piece after a stable change lay in it before. -/
theorem seg_mem {lo hi : Nat} {xs ys : List Mv} (hs : Stab xs ys) (ho : Out lo hi xs ys) (h1 : lo ≤ hi) (h2 : hi ≤ xs.length) {i : Nat} {p : Mv} (hi1 : lo ≤ i) (hi2 : i < hi) (hp : ys[i]? = some p) : ∃ j, lo ≤ j ∧ j < hi ∧ xs[j]? = some p := by
  have ex := parts (a := lo) (m := hi) (b := hi) h1 (Nat.le_refl _) h2
  have ey := parts (a := lo) (m := hi) (b := hi) (xs := ys) h1 (Nat.le_refl _) (by rw [hs.1]; exact h2)
  have t1 : ys.take lo = xs.take lo := by
    apply List.ext_getElem?
    intro j
    rw [List.getElem?_take, List.getElem?_take]
    split
    · exact ho j (by omega)
    · rfl
  have t2 : ys.drop hi = xs.drop hi := by
    apply List.ext_getElem?
    intro j
    rw [List.getElem?_drop, List.getElem?_drop]
    exact ho _ (by omega)
  have hk := hs.2 p.1
  rw [ex, ey] at hk
  simp only [fk_append, Nat.sub_self, List.take_zero, t1, t2] at hk
  have hk2 := List.append_cancel_left hk
  have hk3 : fk p.1 ((ys.drop lo).take (hi - lo)) = fk p.1 ((xs.drop lo).take (hi - lo)) := by
    have := List.append_cancel_right hk2
    exact this
  have hmem : p ∈ (ys.drop lo).take (hi - lo) := by
    rw [List.mem_iff_getElem?]
    refine ⟨i - lo, ?_⟩
    rw [List.getElem?_take, if_pos (by omega), List.getElem?_drop, show lo + (i - lo) = i by omega]
    exact hp
  have h3 : p ∈ fk p.1 ((ys.drop lo).take (hi - lo)) := List.mem_filter.2 ⟨hmem, by simp⟩
  rw [hk3] at h3
  exact mem_part (List.mem_filter.1 h3).1
/-- Sorted and with the same moves for each section: there is one such list alone. -/
theorem unique : ∀ (ys zs : List Mv), ys.Pairwise (fun p q => p.1 ≤ q.1) → zs.Pairwise (fun p q => p.1 ≤ q.1) → (∀ k, fk k ys = fk k zs) → ys = zs
  | [], zs, _, _, h => by
    cases zs with
    | nil => rfl
    | cons z zs => have := h z.1; simp [fk] at this
  | y :: ys, [], _, _, h => by have := h y.1; simp [fk] at this
  | y :: ys, z :: zs, hy, hz, h => by
    obtain ⟨y1, y2⟩ := List.pairwise_cons.1 hy
    obtain ⟨z1, z2⟩ := List.pairwise_cons.1 hz
    have hyz : y.1 = z.1 := by
      have a1 : z.1 ≤ y.1 := by
        have : y ∈ fk y.1 (z :: zs) := by rw [← h]; simp [fk]
        rcases List.mem_cons.1 (List.mem_filter.1 this).1 with e | e
        · rw [e]; exact Int.le_refl _
        · exact z1 y e
      have a2 : y.1 ≤ z.1 := by
        have : z ∈ fk z.1 (y :: ys) := by rw [h]; simp [fk]
        rcases List.mem_cons.1 (List.mem_filter.1 this).1 with e | e
        · rw [e]; exact Int.le_refl _
        · exact y1 z e
      omega
    have hh := h y.1
    unfold fk at hh
    rw [List.filter_cons_of_pos (by simp), List.filter_cons_of_pos (by simp [hyz])] at hh
    injection hh with e1 e2
    subst e1
    congr 1
    refine unique ys zs y2 z2 (fun k => ?_)
    have := h k
    unfold fk at this ⊢
    by_cases hk : y.1 = k
    · rw [List.filter_cons_of_pos (by simp [hk]), List.filter_cons_of_pos (by simp [hk])] at this
      injection this
    · rw [List.filter_cons_of_neg (by simp [hk]), List.filter_cons_of_neg (by simp [hk])] at this
      exact this
theorem seg_pairwise {xs : List Mv} (h : Seg xs 0 xs.length) : xs.Pairwise (fun p q => p.1 ≤ q.1) := by
  rw [List.pairwise_iff_getElem]
  intro i j hi hj hij
  exact h i j _ _ (Nat.zero_le _) (by omega) hj (List.getElem?_eq_getElem hi) (List.getElem?_eq_getElem hj)

/-- Two pieces of k elements, from a and from b, change their places. -/
def Swp (a b k : Nat) (xs ys : List Mv) : Prop := ys.length = xs.length ∧ ∀ j, ys[j]? = if a ≤ j ∧ j < a + k then xs[b + (j - a)]? else if b ≤ j ∧ j < b + k then xs[a + (j - b)]? else xs[j]?
theorem swp_zero (a b : Nat) (xs : List Mv) : Swp a b 0 xs xs := ⟨rfl, fun j => by rw [if_neg (by omega), if_neg (by omega)]⟩
theorem swp_step {a b k : Nat} {xs ys : List Mv} {x y : Mv} (hab : a + k < b) (h : Swp a b k xs ys) (hx : xs[a + k]? = some x) (hy : xs[b + k]? = some y) : ys[a + k]? = some x ∧ ys[b + k]? = some y ∧ Swp a b (k + 1) xs ((ys.set (a + k) y).set (b + k) x) := by
  have h1 : ys[a + k]? = some x := by rw [h.2, if_neg (by omega), if_neg (by omega)]; exact hx
  have h2 : ys[b + k]? = some y := by rw [h.2, if_neg (by omega), if_neg (by omega)]; exact hy
  have l1 : a + k < ys.length := (List.getElem?_eq_some_iff.1 h1).1
  have l2 : b + k < ys.length := (List.getElem?_eq_some_iff.1 h2).1
  refine ⟨h1, h2, by simpa using h.1, fun j => ?_⟩
  by_cases c1 : j = b + k
  · subst c1
    rw [List.getElem?_set_self (by simpa using l2), if_neg (by omega), if_pos (by omega), show a + (b + k - b) = a + k by omega, hx]
  · rw [List.getElem?_set_ne (by omega)]
    by_cases c2 : j = a + k
    · subst c2
      rw [List.getElem?_set_self (by omega), if_pos (by omega), show b + (a + k - a) = b + k by omega, hy]
    · rw [List.getElem?_set_ne (by omega), h.2 j]
      by_cases c3 : a ≤ j ∧ j < a + k
      · rw [if_pos c3, if_pos (by omega)]
      · by_cases c4 : b ≤ j ∧ j < b + k
        · rw [if_neg c3, if_pos c4, if_neg (by omega), if_pos (by omega)]
        · rw [if_neg c3, if_neg c4, if_neg (by omega), if_neg (by omega)]
theorem rot_end {m i : Nat} {zs ys : List Mv} (hi : i ≤ m) (h : Swp (m - i) m i zs ys) : Rot (m - i) m (m + i) zs ys := by
  refine ⟨h.1, fun t => ?_⟩
  rw [h.2 t]
  by_cases c1 : m - i ≤ t ∧ t < m - i + i
  · rw [if_pos c1, if_pos (by omega)]
  · by_cases c2 : m ≤ t ∧ t < m + i
    · rw [if_neg c1, if_pos c2, if_neg (by omega), if_pos (by omega)]
      congr 1; omega
    · rw [if_neg c1, if_neg c2, if_neg (by omega), if_neg (by omega)]
theorem rot_left {m i j : Nat} {zs zs' ys : List Mv} (hi : i ≤ m) (hj : j < i) (h : Swp (m - i) m j zs zs') (hr : Rot (m - (i - j)) m (m + j) zs' ys) : Rot (m - i) m (m + j) zs ys := by
  refine ⟨hr.1.trans h.1, fun t => ?_⟩
  rw [hr.2 t]
  by_cases c1 : t < m - i
  · rw [if_neg (by omega), if_neg (by omega), h.2 t, if_neg (by omega), if_neg (by omega), if_neg (by omega), if_neg (by omega)]
  · by_cases c2 : t < m - i + j
    · rw [if_neg (by omega), if_neg (by omega), h.2 t, if_pos (by omega), if_pos (by omega)]
    · by_cases c3 : t < m - (i - j) + j
      · rw [if_pos (by omega), h.2, if_neg (by omega), if_pos (by omega), if_neg (by omega), if_pos (by omega)]
        congr 1; omega
      · by_cases c4 : t < m + j
        · rw [if_neg (by omega), if_pos (by omega), h.2, if_neg (by omega), if_neg (by omega), if_neg (by omega), if_pos (by omega)]
          congr 1; omega
        · rw [if_neg (by omega), if_neg (by omega), h.2 t, if_neg (by omega), if_neg (by omega), if_neg (by omega), if_neg (by omega)]
theorem rot_right {m i j : Nat} {zs zs' ys : List Mv} (hi : i ≤ m) (hj : i < j) (h : Swp (m - i) (m + j - i) i zs zs') (hr : Rot (m - i) m (m + (j - i)) zs' ys) : Rot (m - i) m (m + j) zs ys := by
  refine ⟨hr.1.trans h.1, fun t => ?_⟩
  rw [hr.2 t]
  by_cases c1 : t < m - i
  · rw [if_neg (by omega), if_neg (by omega), h.2 t, if_neg (by omega), if_neg (by omega), if_neg (by omega), if_neg (by omega)]
  · by_cases c2 : t < m - i + (j - i)
    · rw [if_pos (by omega), h.2, if_neg (by omega), if_neg (by omega), if_pos (by omega)]
    · by_cases c3 : t < m + (j - i)
      · rw [if_neg (by omega), if_pos (by omega), h.2, if_pos (by omega), if_pos (by omega)]
        congr 1; omega
      · by_cases c4 : t < m + j
        · rw [if_neg (by omega), if_neg (by omega), h.2 t, if_neg (by omega), if_pos (by omega), if_neg (by omega), if_pos (by omega)]
          congr 1; omega
        · rw [if_neg (by omega), if_neg (by omega), h.2 t, if_neg (by omega), if_neg (by omega), if_neg (by omega), if_neg (by omega)]

/-! ### Insertion -/
/-- From a to i all is sorted but the element at j, which stands before all behind it. -/
def Ins (a j i : Nat) (xs : List Mv) : Prop :=
  (∀ u v (p q : Mv), a ≤ u → u ≤ v → v ≤ i → u ≠ j → v ≠ j → xs[u]? = some p → xs[v]? = some q → p.1 ≤ q.1) ∧ ∀ v (x q : Mv), j < v → v ≤ i → xs[j]? = some x → xs[v]? = some q → x.1 < q.1
theorem ins_start {a i : Nat} {xs : List Mv} (h : Seg xs a i) : Ins a i i xs :=
  ⟨fun u v p q h1 h2 h3 h4 h5 hp hq => h u v p q h1 h2 (by omega) hp hq, fun v x q h1 h2 => by omega⟩
theorem set2_at {xs : List Mv} {j : Nat} {x y : Mv} (hj : j + 1 < xs.length) (u : Nat) : ((xs.set j x).set (j + 1) y)[u]? = if u = j + 1 then some y else if u = j then some x else xs[u]? := by
  by_cases h1 : u = j + 1
  · subst h1
    rw [if_pos rfl, List.getElem?_set_self (by simpa using hj)]
  · rw [if_neg h1, List.getElem?_set_ne (by omega)]
    by_cases h2 : u = j
    · subst h2
      rw [if_pos rfl, List.getElem?_set_self (by omega)]
    · rw [if_neg h2, List.getElem?_set_ne (by omega)]
theorem set2_out {xs : List Mv} {j lo hi : Nat} {x y : Mv} (hj : j + 1 < xs.length) (h1 : lo ≤ j) (h2 : j + 1 < hi) : Out lo hi xs ((xs.set j x).set (j + 1) y) := by
  intro u hu
  rw [set2_at hj, if_neg (by omega), if_neg (by omega)]
theorem ins_step {a j i : Nat} {xs : List Mv} {x y : Mv} (ha : a ≤ j) (hi : j + 1 ≤ i) (hy : xs[j]? = some y) (hx : xs[j + 1]? = some x) (hlt : x.1 < y.1) (h : Ins a (j + 1) i xs) : Ins a j i ((xs.set j x).set (j + 1) y) := by
  have hl : j + 1 < xs.length := (List.getElem?_eq_some_iff.1 hx).1
  refine ⟨fun u v p q h1 h2 h3 h4 h5 hp hq => ?_, fun v x' q h1 h2 hp hq => ?_⟩
  · rw [set2_at hl] at hp hq
    rw [if_neg h4] at hp
    rw [if_neg h5] at hq
    by_cases c1 : u = j + 1 <;> by_cases c2 : v = j + 1
    · rw [if_pos c1] at hp; rw [if_pos c2] at hq; cases hp; cases hq; exact Int.le_refl _
    · rw [if_pos c1] at hp; rw [if_neg c2] at hq
      cases hp
      exact h.1 j v y q ha (by omega) h3 (by omega) c2 hy hq
    · rw [if_neg c1] at hp; rw [if_pos c2] at hq
      cases hq
      exact h.1 u j p y h1 (by omega) (by omega) c1 (by omega) hp hy
    · rw [if_neg c1] at hp; rw [if_neg c2] at hq
      exact h.1 u v p q h1 h2 h3 c1 c2 hp hq
  · rw [set2_at hl, if_neg (by omega), if_pos rfl] at hp
    cases hp
    rw [set2_at hl] at hq
    by_cases c2 : v = j + 1
    · rw [if_pos c2] at hq; cases hq; exact hlt
    · rw [if_neg c2, if_neg (by omega)] at hq
      exact h.2 v x q (by omega) h2 hx hq
theorem ins_stop {a j i : Nat} {xs : List Mv} (h : Ins a j i xs) (hs : j ≤ a ∨ ∀ x y : Mv, xs[j - 1]? = some y → xs[j]? = some x → y.1 ≤ x.1) (hl : i < xs.length) : Seg xs a (i + 1) := by
  intro u v p q h1 h2 h3 hp hq
  by_cases c1 : u = j
  · subst c1
    by_cases c2 : v = u
    · subst c2; rw [hp] at hq; cases hq; exact Int.le_refl _
    · exact Int.le_of_lt (h.2 v p q (by omega) (by omega) hp hq)
  · by_cases c2 : v = j
    · subst c2
      rcases hs with hs | hs
      · omega
      · obtain ⟨y, hy⟩ : ∃ y, xs[v - 1]? = some y := ⟨_, List.getElem?_eq_getElem (by omega)⟩
        have e1 := hs q y hy hq
        have e2 := h.1 u (v - 1) p y h1 (by omega) (by omega) c1 (by omega) hp hy
        omega
    · exact h.1 u v p q h1 h2 (by omega) c1 c2 hp hq

/-! ### One element merged with a piece -/
/-- The element at a has gone on to place k. -/
def Fwd (a k : Nat) (xs ys : List Mv) : Prop := ys.length = xs.length ∧ ∀ j, ys[j]? = if a ≤ j ∧ j < k then xs[j + 1]? else if j = k then xs[a]? else xs[j]?
theorem fwd_start (a : Nat) (xs : List Mv) : Fwd a a xs xs := ⟨rfl, fun j => by
  rw [if_neg (by omega)]
  split
  · rename_i h; rw [h]
  · rfl⟩
theorem fwd_step {a k : Nat} {xs ys : List Mv} {x y : Mv} (hak : a ≤ k) (h : Fwd a k xs ys) (hx : xs[a]? = some x) (hy : xs[k + 1]? = some y) : ys[k]? = some x ∧ ys[k + 1]? = some y ∧ Fwd a (k + 1) xs ((ys.set k y).set (k + 1) x) := by
  have h1 : ys[k]? = some x := by rw [h.2 k, if_neg (by omega), if_pos rfl]; exact hx
  have h2 : ys[k + 1]? = some y := by rw [h.2 (k + 1), if_neg (by omega), if_neg (by omega)]; exact hy
  have hl : k + 1 < ys.length := (List.getElem?_eq_some_iff.1 h2).1
  refine ⟨h1, h2, by simpa using h.1, fun j => ?_⟩
  rw [set2_at hl]
  by_cases c1 : j = k + 1
  · rw [if_pos c1, if_neg (by omega), if_pos c1]; exact hx.symm
  · rw [if_neg c1, if_neg c1]
    by_cases c2 : j = k
    · subst c2; rw [if_pos rfl, if_pos (by omega)]; exact hy.symm
    · rw [if_neg c2, h.2 j]
      by_cases c3 : a ≤ j ∧ j < k
      · rw [if_pos c3, if_pos (by omega)]
      · rw [if_neg c3, if_neg c2, if_neg (by omega)]
theorem fwd_seg {a b i : Nat} {xs ys : List Mv} {x : Mv} (hai : a + 1 ≤ i) (hib : i ≤ b) (hx : xs[a]? = some x) (hs : Seg xs (a + 1) b) (h : Fwd a (i - 1) xs ys)
    (hlo : ∀ j (q : Mv), a + 1 ≤ j → j < i → xs[j]? = some q → q.1 < x.1) (hhi : ∀ j (q : Mv), i ≤ j → j < b → xs[j]? = some q → x.1 ≤ q.1) : Seg ys a b := by
  intro u v p q h1 h2 h3 hp hq
  rw [h.2] at hp hq
  by_cases c1 : u < i - 1
  · rw [if_pos ⟨h1, c1⟩] at hp
    by_cases c2 : v < i - 1
    · rw [if_pos ⟨by omega, c2⟩] at hq
      exact hs (u + 1) (v + 1) p q (by omega) (by omega) (by omega) hp hq
    · rw [if_neg (by omega)] at hq
      by_cases c3 : v = i - 1
      · rw [if_pos c3, hx] at hq; cases hq
        exact Int.le_of_lt (hlo (u + 1) p (by omega) (by omega) hp)
      · rw [if_neg c3] at hq
        exact hs (u + 1) v p q (by omega) (by omega) (by omega) hp hq
  · rw [if_neg (by omega)] at hp
    rw [if_neg (by omega)] at hq
    by_cases c3 : u = i - 1
    · rw [if_pos c3, hx] at hp; cases hp
      by_cases c4 : v = i - 1
      · rw [if_pos c4, hx] at hq; cases hq; exact Int.le_refl _
      · rw [if_neg c4] at hq
        exact hhi v q (by omega) (by omega) hq
    · rw [if_neg c3] at hp
      rw [if_neg (by omega)] at hq
      exact hs u v p q (by omega) h2 h3 hp hq
theorem fwd_out {a b k : Nat} {xs ys : List Mv} (hak : a ≤ k) (hk : k < b) (h : Fwd a k xs ys) : Out a b xs ys := by
  intro j hj
  rw [h.2 j, if_neg (by omega), if_neg (by omega)]
/-- The element at m has come back to place k. -/
def Bwd (m k : Nat) (xs ys : List Mv) : Prop := ys.length = xs.length ∧ ∀ j, ys[j]? = if j = k then xs[m]? else if k < j ∧ j ≤ m then xs[j - 1]? else xs[j]?
theorem bwd_start (m : Nat) (xs : List Mv) : Bwd m m xs xs := ⟨rfl, fun j => by
  split
  · rename_i h; rw [h]
  · rw [if_neg (by omega)]⟩
theorem bwd_step {m k : Nat} {xs ys : List Mv} {x y : Mv} (hkm : k + 1 ≤ m) (h : Bwd m (k + 1) xs ys) (hx : xs[m]? = some x) (hy : xs[k]? = some y) : ys[k]? = some y ∧ ys[k + 1]? = some x ∧ Bwd m k xs ((ys.set k x).set (k + 1) y) := by
  have h1 : ys[k]? = some y := by rw [h.2 k, if_neg (by omega), if_neg (by omega)]; exact hy
  have h2 : ys[k + 1]? = some x := by rw [h.2 (k + 1), if_pos rfl]; exact hx
  have hl : k + 1 < ys.length := (List.getElem?_eq_some_iff.1 h2).1
  refine ⟨h1, h2, by simpa using h.1, fun j => ?_⟩
  rw [set2_at hl]
  by_cases c1 : j = k + 1
  · rw [if_pos c1, if_neg (by omega), if_pos (by omega), c1]; exact hy.symm
  · rw [if_neg c1]
    by_cases c2 : j = k
    · rw [if_pos c2, if_pos c2]; exact hx.symm
    · rw [if_neg c2, if_neg c2, h.2 j, if_neg c1]
      by_cases c3 : k + 1 < j ∧ j ≤ m
      · rw [if_pos c3, if_pos (by omega)]
      · rw [if_neg c3, if_neg (by omega)]
theorem bwd_seg {a m i : Nat} {xs ys : List Mv} {x : Mv} (hai : a ≤ i) (him : i ≤ m) (hx : xs[m]? = some x) (hs : Seg xs a m) (h : Bwd m i xs ys)
    (hlo : ∀ j (q : Mv), a ≤ j → j < i → xs[j]? = some q → q.1 ≤ x.1) (hhi : ∀ j (q : Mv), i ≤ j → j < m → xs[j]? = some q → x.1 < q.1) : Seg ys a (m + 1) := by
  intro u v p q h1 h2 h3 hp hq
  rw [h.2] at hp hq
  by_cases c1 : u = i
  · rw [if_pos c1, hx] at hp; cases hp
    by_cases c2 : v = i
    · rw [if_pos c2, hx] at hq; cases hq; exact Int.le_refl _
    · rw [if_neg c2, if_pos (by omega)] at hq
      exact Int.le_of_lt (hhi (v - 1) q (by omega) (by omega) hq)
  · rw [if_neg c1] at hp
    by_cases c2 : v = i
    · rw [if_pos c2, hx] at hq; cases hq
      rw [if_neg (by omega)] at hp
      exact hlo u p h1 (by omega) hp
    · rw [if_neg c2] at hq
      by_cases c3 : i < u
      · rw [if_pos (by omega)] at hp
        rw [if_pos (by omega)] at hq
        exact hs (u - 1) (v - 1) p q (by omega) (by omega) (by omega) hp hq
      · rw [if_neg (by omega)] at hp
        by_cases c4 : i < v
        · rw [if_pos (by omega)] at hq
          exact hs u (v - 1) p q h1 (by omega) (by omega) hp hq
        · rw [if_neg (by omega)] at hq
          exact hs u v p q h1 h2 (by omega) hp hq
theorem bwd_out {a m k : Nat} {xs ys : List Mv} (hak : a ≤ k) (hk : k ≤ m) (h : Bwd m k xs ys) : Out a (m + 1) xs ys := by
  intro j hj
  rw [h.2 j, if_neg (by omega), if_neg (by omega)]

/-! ### The halves of SymMerge -/
/-- Where the halves meet: pieces as long as each other, with what lies between. -/
structure Cut (a m b mid s : Nat) (xs : List Mv) : Prop where
  hs : a ≤ s ∧ s ≤ m ∧ s ≤ mid ∧ m ≤ mid + m - s ∧ mid + m - s ≤ b ∧ mid ≤ b
  lo : ∀ c (p q : Mv), c < s → a ≤ c → mid + m - 1 - c < b → xs[c]? = some p → xs[mid + m - 1 - c]? = some q → p.1 ≤ q.1
  hi : ∀ c (p q : Mv), s ≤ c → c < m → m ≤ mid + m - 1 - c → c < mid + m → xs[c]? = some p → xs[mid + m - 1 - c]? = some q → q.1 < p.1
theorem cut_lt {a m b mid s : Nat} {xs : List Mv} (hl : b ≤ xs.length) (h : Cut a m b mid s xs) (hA : Seg xs a m) (hB : Seg xs m b) : ∀ i j (p q : Mv), s ≤ i → i < m → m ≤ j → j < mid + m - s → xs[i]? = some p → xs[j]? = some q → q.1 < p.1 := by
  intro i j p q h1 h2 h3 h4 hp hq
  obtain ⟨a1, a2, a3, a4, a5, a6⟩ := h.hs
  obtain ⟨x, hx⟩ : ∃ x, xs[s]? = some x := ⟨_, List.getElem?_eq_getElem (by omega)⟩
  obtain ⟨y, hy⟩ : ∃ y, xs[mid + m - 1 - s]? = some y := ⟨_, List.getElem?_eq_getElem (by omega)⟩
  have e1 := h.hi s x y (Nat.le_refl _) (by omega) (by omega) (by omega) hx hy
  have e2 := hA s i x p a1 h1 h2 hx hp
  have e3 := hB j (mid + m - 1 - s) q y h3 (by omega) (by omega) hq hy
  omega
theorem cut_parts {a m b mid s : Nat} {xs ys : List Mv} (hl : b ≤ xs.length) (h : Cut a m b mid s xs) (hA : Seg xs a m) (hB : Seg xs m b) (hr : Rot s m (mid + m - s) xs ys) :
    Seg ys a s ∧ Seg ys s mid ∧ Seg ys mid (mid + m - s) ∧ Seg ys (mid + m - s) b ∧ ∀ i j (p q : Mv), a ≤ i → i < mid → mid ≤ j → j < b → ys[i]? = some p → ys[j]? = some q → p.1 ≤ q.1 := by
  obtain ⟨a1, a2, a3, a4, a5, a6⟩ := h.hs
  have hlt := cut_lt hl h hA hB
  have elen : mid + m - s - m = mid - s := by omega
  have at0 : ∀ j, j < s → ys[j]? = xs[j]? := fun j hj => by rw [hr.2 j, if_neg (by omega), if_neg (by omega)]
  have at1 : ∀ j, s ≤ j → j < mid → ys[j]? = xs[m + (j - s)]? := fun j h1 h2 => by rw [hr.2 j, if_pos (by omega)]
  have at2 : ∀ j, mid ≤ j → j < mid + m - s → ys[j]? = xs[s + (j - mid)]? := fun j h1 h2 => by rw [hr.2 j, if_neg (by omega), if_pos (by omega), elen, show s + (mid - s) = mid by omega]
  have at3 : ∀ j, mid + m - s ≤ j → ys[j]? = xs[j]? := fun j h1 => by rw [hr.2 j, if_neg (by omega), if_neg (by omega)]
  refine ⟨?_, ?_, ?_, ?_, ?_⟩
  · intro u v p q h1 h2 h3 hp hq
    rw [at0 u (by omega)] at hp; rw [at0 v (by omega)] at hq
    exact hA u v p q h1 h2 (by omega) hp hq
  · intro u v p q h1 h2 h3 hp hq
    rw [at1 u h1 (by omega)] at hp; rw [at1 v (by omega) h3] at hq
    exact hB _ _ p q (by omega) (by omega) (by omega) hp hq
  · intro u v p q h1 h2 h3 hp hq
    rw [at2 u h1 (by omega)] at hp; rw [at2 v (by omega) h3] at hq
    exact hA _ _ p q (by omega) (by omega) (by omega) hp hq
  · intro u v p q h1 h2 h3 hp hq
    rw [at3 u h1] at hp; rw [at3 v (by omega)] at hq
    exact hB u v p q (by omega) h2 h3 hp hq
  · intro i j p q h1 h2 h3 h4 hp hq
    by_cases c1 : i < s
    · rw [at0 i c1] at hp
      by_cases c2 : j < mid + m - s
      · rw [at2 j h3 c2] at hq
        exact hA i _ p q h1 (by omega) (by omega) hp hq
      · rw [at3 j (by omega)] at hq
        obtain ⟨x, hx⟩ : ∃ x, xs[s - 1]? = some x := ⟨_, List.getElem?_eq_getElem (by omega)⟩
        obtain ⟨y, hy⟩ : ∃ y, xs[mid + m - 1 - (s - 1)]? = some y := ⟨_, List.getElem?_eq_getElem (by omega)⟩
        have e1 := h.lo (s - 1) x y (by omega) (by omega) (by omega) hx hy
        have e2 := hA i (s - 1) p x h1 (by omega) (by omega) hp hx
        have e3 := hB (mid + m - 1 - (s - 1)) j y q (by omega) (by omega) h4 hy hq
        omega
    · rw [at1 i (by omega) h2] at hp
      by_cases c2 : j < mid + m - s
      · rw [at2 j h3 c2] at hq
        exact Int.le_of_lt (hlt _ _ q p (by omega) (by omega) (by omega) (by omega) hq hp)
      · rw [at3 j (by omega)] at hq
        exact hB _ j p q (by omega) (by omega) h4 hp hq
/-- Both halves are sorted: all is. -/
theorem halves {a mid b : Nat} {ys zs ws : List Mv} (h0 : a ≤ mid) (h1 : mid ≤ b) (hl : b ≤ ys.length) (s1 : Stab ys zs) (o1 : Out a mid ys zs) (g1 : Seg zs a mid) (s2 : Stab zs ws) (o2 : Out mid b zs ws) (g2 : Seg ws mid b)
    (hle : ∀ i j (p q : Mv), a ≤ i → i < mid → mid ≤ j → j < b → ys[i]? = some p → ys[j]? = some q → p.1 ≤ q.1) : Seg ws a b := by
  intro u v p q k1 k2 k3 hp hq
  by_cases c1 : v < mid
  · rw [o2 u (by omega)] at hp; rw [o2 v (by omega)] at hq
    exact g1 u v p q k1 k2 c1 hp hq
  · by_cases c2 : mid ≤ u
    · exact g2 u v p q c2 k2 k3 hp hq
    · rw [o2 u (by omega)] at hp
      obtain ⟨i, i1, i2, i3⟩ := seg_mem s1 o1 h0 (by omega) k1 (by omega) hp
      obtain ⟨j, j1, j2, j3⟩ := seg_mem s2 o2 h1 (by rw [s1.1]; exact hl) (by omega) k3 hq
      rw [o1 j (by omega)] at j3
      exact hle i j p q i1 i2 j1 j2 i3 j3
/-- A test in the search: what it says of all places before, of all behind. -/
theorem bs_lo {a m b P : Nat} {xs : List Mv} (hl : b ≤ xs.length) (hA : Seg xs a m) (hB : Seg xs m b) {c : Nat} {x y : Mv} (hc : c < m) (hP : m ≤ P - c) (hx : xs[c]? = some x) (hy : xs[P - c]? = some y) (hxy : x.1 ≤ y.1) :
    ∀ c' (p q : Mv), c' ≤ c → a ≤ c' → P - c' < b → xs[c']? = some p → xs[P - c']? = some q → p.1 ≤ q.1 := by
  intro c' p q h1 h2 h3 hp hq
  have e1 := hA c' c p x h2 h1 hc hp hx
  have e2 := hB (P - c) (P - c') y q hP (by omega) h3 hy hq
  omega
theorem bs_hi {a m b P : Nat} {xs : List Mv} (hl : b ≤ xs.length) (hA : Seg xs a m) (hB : Seg xs m b) {c : Nat} {x y : Mv} (hac : a ≤ c) (hPb : P - c < b) (hx : xs[c]? = some x) (hy : xs[P - c]? = some y) (hxy : y.1 < x.1) :
    ∀ c' (p q : Mv), c ≤ c' → c' < m → m ≤ P - c' → xs[c']? = some p → xs[P - c']? = some q → q.1 < p.1 := by
  intro c' p q h1 h2 h3 hp hq
  have e1 := hA c c' x p hac h1 h2 hx hp
  have e2 := hB (P - c') (P - c) q y h3 (by omega) hPb hq hy
  omega
end Go.Proofs.Ytmplanlppjebnaa.So
