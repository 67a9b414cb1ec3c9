/-
  Plain laws of paths: how long a train stands, where two paths clash. No program in sight.
-/
import Derived.Test.YtpfgjkgjeejghaaPathPlain
namespace Go.Proofs.Ytpfgjkgjeejghaa.Pt
/-- The minutes of standing before section k (k from 1 on). -/
def sd (xs ys : List Int) : Nat → Int
  | 0 => 0
  | k + 1 => sd xs ys k + (xs.getD (k + 1) 0 - ys.getD k 0)
/-- What the count of standing is. -/
def stands (n : Int) (xs ys : List Int) : Int := if valid n xs ys = true then sd xs ys (n.toNat - 1) else -1
theorem vst_at {xs ys : List Int} : ∀ {k : Nat} {e : Int}, vst xs ys k = some e → ∀ j, j < k → 0 ≤ xs.getD j 0 ∧ xs.getD j 0 ≤ 2000 ∧ 0 ≤ ys.getD j 0 ∧ ys.getD j 0 ≤ 2000
  | 0, e, h, j, hj => by omega
  | k + 1, e, h, j, hj => by
    simp only [vst] at h
    cases h1 : vst xs ys k with
    | none => rw [h1] at h; cases h
    | some e' =>
      rw [h1] at h
      have h0 := vst_nonneg h1
      simp only at h
      split at h
      · rename_i hc
        by_cases hjk : j = k
        · subst hjk; omega
        · exact vst_at h1 j (by omega)
      · cases h
theorem valid_parts {n : Int} {xs ys : List Int} (h : valid n xs ys = true) : ∃ m : Nat, n = m ∧ 1 ≤ m ∧ m ≤ 5 ∧ xs.length = m ∧ ys.length = m ∧ ∀ j, j < m → 0 ≤ xs.getD j 0 ∧ xs.getD j 0 ≤ 2000 ∧ 0 ≤ ys.getD j 0 ∧ ys.getD j 0 ≤ 2000 := by
  unfold valid at h
  simp only [Bool.and_eq_true, decide_eq_true_eq] at h
  obtain ⟨h1, h2, h3, h4⟩ := h
  refine ⟨n.toNat, by omega, by omega, by omega, by omega, by omega, ?_⟩
  cases e : vst xs ys n.toNat with
  | none => rw [e] at h4; cases h4
  | some v => exact vst_at e
theorem sd_bound {m : Nat} {xs ys : List Int} (h : ∀ j, j < m → 0 ≤ xs.getD j 0 ∧ xs.getD j 0 ≤ 2000 ∧ 0 ≤ ys.getD j 0 ∧ ys.getD j 0 ≤ 2000) : ∀ k, k + 1 ≤ m → -2000 * (k : Int) ≤ sd xs ys k ∧ sd xs ys k ≤ 2000 * (k : Int)
  | 0, _ => by simp [sd]
  | k + 1, hk => by
    have := sd_bound h k (by omega)
    have h1 := h (k + 1) (by omega)
    have h2 := h k (by omega)
    simp only [sd]
    omega
/-- Where two paths clash, up to section k. -/
def clashes (xs ys xs' ys' : List Int) : Nat → List Int
  | 0 => []
  | k + 1 => if xs.getD k 0 < ys'.getD k 0 ∧ xs'.getD k 0 < ys.getD k 0 then clashes xs ys xs' ys' k ++ [(k : Int)] else clashes xs ys xs' ys' k
def clash (n : Int) (xs ys xs' ys' : List Int) : List Int := if valid n xs ys = true ∧ valid n xs' ys' = true then clashes xs ys xs' ys' n.toNat else []
theorem clashes_len (xs ys xs' ys' : List Int) : ∀ k, (clashes xs ys xs' ys' k).length ≤ k
  | 0 => by simp [clashes]
  | k + 1 => by
    have := clashes_len xs ys xs' ys' k
    simp only [clashes]
    split
    · simp; omega
    · omega
end Go.Proofs.Ytpfgjkgjeejghaa.Pt
