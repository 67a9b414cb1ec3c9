/-
  Plain laws of paths: which are valid, how long a train stands, where two paths clash, the path of runs. No program in sight.
-/
namespace Go.Proofs.Ytpfgjkgjeejghaa.Pt

/-- The time from which on section k may be entered, if all sections before are right. -/
def vst (xs ys : List Int) : Nat → Option Int
  | 0 => some 0
  | k + 1 => match vst xs ys k with
    | none => none
    | some e => if e ≤ xs.getD k 0 ∧ xs.getD k 0 < ys.getD k 0 ∧ ys.getD k 0 ≤ 2000 then some (ys.getD k 0) else none
/-- Whether a path is one over n sections. -/
def valid (n : Int) (xs ys : List Int) : Bool := decide (1 ≤ n ∧ n ≤ 5) && (decide ((xs.length : Int) = n) && (decide ((ys.length : Int) = n) && (vst xs ys n.toNat).isSome))
theorem vst_nonneg {xs ys : List Int} : ∀ {k : Nat} {e : Int}, vst xs ys k = some e → 0 ≤ e ∧ e ≤ 2000
  | 0, e, h => by simp [vst] at h; omega
  | k + 1, e, h => by
    simp only [vst] at h
    cases h1 : vst xs ys k with
    | none => rw [h1] at h; cases h
    | some e' =>
      rw [h1] at h
      have := vst_nonneg h1
      simp only at h
      split at h
      · injection h with h; omega
      · cases h
theorem vst_yes {xs ys : List Int} {k : Nat} {e : Int} (h : vst xs ys k = some e) (h1 : e ≤ xs.getD k 0) (h2 : xs.getD k 0 < ys.getD k 0) (h3 : ys.getD k 0 ≤ 2000) : vst xs ys (k + 1) = some (ys.getD k 0) := by
  simp only [vst, h]; rw [if_pos ⟨h1, h2, h3⟩]
theorem vst_no {xs ys : List Int} {k : Nat} {e : Int} (h : vst xs ys k = some e) (h1 : ¬ (e ≤ xs.getD k 0 ∧ xs.getD k 0 < ys.getD k 0 ∧ ys.getD k 0 ≤ 2000)) : vst xs ys (k + 1) = none := by
  simp only [vst, h]; rw [if_neg h1]
theorem vst_stop {xs ys : List Int} {k : Nat} (h : vst xs ys k = none) : ∀ j, vst xs ys (k + j) = none
  | 0 => h
  | j + 1 => by show vst xs ys ((k + j) + 1) = none; simp only [vst, vst_stop h j]
theorem valid_no_n {n : Int} {xs ys : List Int} (h : ¬ (1 ≤ n ∧ n ≤ 5)) : valid n xs ys = false := by unfold valid; rw [decide_eq_false h]; rfl
theorem valid_no_x {n : Int} {xs ys : List Int} (h : ¬ (xs.length : Int) = n) : valid n xs ys = false := by unfold valid; rw [decide_eq_false h]; simp
theorem valid_no_y {n : Int} {xs ys : List Int} (h : ¬ (ys.length : Int) = n) : valid n xs ys = false := by unfold valid; rw [decide_eq_false h]; simp
theorem valid_at {m : Nat} {xs ys : List Int} (h : 1 ≤ m ∧ m ≤ 5) (hx : xs.length = m) (hy : ys.length = m) : valid (m : Int) xs ys = (vst xs ys m).isSome := by
  unfold valid
  rw [decide_eq_true (by omega : 1 ≤ (m : Int) ∧ (m : Int) ≤ 5), decide_eq_true (by omega : (xs.length : Int) = m), decide_eq_true (by omega : (ys.length : Int) = m)]
  rfl
theorem valid_fail {m k : Nat} {xs ys : List Int} (h : 1 ≤ m ∧ m ≤ 5) (hx : xs.length = m) (hy : ys.length = m) (hk : k < m) (hv : vst xs ys (k + 1) = none) : valid (m : Int) xs ys = false := by
  rw [valid_at h hx hy]
  have := vst_stop hv (m - (k + 1))
  rw [show k + 1 + (m - (k + 1)) = m by omega] at this
  rw [this]; rfl
end Go.Proofs.Ytpfgjkgjeejghaa.Pt
