/-
  Plain laws: how many texts of n events can be done from a state on.
  Conditions: none.
-/
import Derived.Test.YtlneedjhdnjnpaaBlkB
namespace Go.Proofs.Ytlneedjhdnjnpaa.Bk
open Go.Proofs.Ytlneedjhdnjnpaa
/-- The sum over the first k letters that can be done in state s. -/
def cs (g : Nat → Int) (s : Nat) : Nat → Int
  | 0 => 0
  | k + 1 => cs g s k + (match step s ((ev.getD k 0).toNat) with | some t => g t | none => 0)
/-- How many texts of n events can be done from state s on. -/
def many : Nat → Nat → Int
  | 0, _ => 1
  | n + 1, s => cs (many n) s 7
theorem cs_yes {g : Nat → Int} {s k t : Nat} {c : UInt8} (hc : ev[k]? = some c) (h : step s c.toNat = some t) : cs g s (k + 1) = cs g s k + g t := by
  simp only [cs]; rw [List.getD_eq_getElem?_getD, hc]; simp only [Option.getD_some]; rw [h]
theorem cs_no {g : Nat → Int} {s k : Nat} {c : UInt8} (hc : ev[k]? = some c) (h : step s c.toNat = none) : cs g s (k + 1) = cs g s k := by
  simp only [cs]; rw [List.getD_eq_getElem?_getD, hc]; simp only [Option.getD_some]; rw [h]; simp
theorem cs_bd {g : Nat → Int} {M : Int} (hM : 0 ≤ M) (hg : ∀ t, 0 ≤ g t ∧ g t ≤ M) (s : Nat) : ∀ k, 0 ≤ cs g s k ∧ cs g s k ≤ M * k
  | 0 => by simp [cs]
  | k + 1 => by
    have ih := cs_bd hM hg s k
    simp only [cs]
    have h1 : M * ((k + 1 : Nat) : Int) = M * (k : Int) + M := by rw [Int.natCast_add, Int.mul_add]; simp
    rw [h1]
    cases h : step s ((ev.getD k 0).toNat) with
    | none => simp only; omega
    | some t => have := hg t; simp only; omega
theorem cs7_bd {g : Nat → Int} {M : Int} (hM : 0 ≤ M) (hg : ∀ t, 0 ≤ g t ∧ g t ≤ M) {s : Nat} (hs : s < 5) {k : Nat} (hk : k ≤ 7) : 0 ≤ cs g s k ∧ cs g s k ≤ 2 * M := by
  have : s = 0 ∨ s = 1 ∨ s = 2 ∨ s = 3 ∨ s = 4 := by omega
  have hk' : k = 0 ∨ k = 1 ∨ k = 2 ∨ k = 3 ∨ k = 4 ∨ k = 5 ∨ k = 6 ∨ k = 7 := by omega
  have g0 := hg 0; have g1 := hg 1; have g2 := hg 2; have g3 := hg 3; have g4 := hg 4
  rcases this with rfl | rfl | rfl | rfl | rfl <;> rcases hk' with rfl | rfl | rfl | rfl | rfl | rfl | rfl | rfl <;> simp [cs, ev, step] <;> omega
theorem step5 {s c : Nat} (hs : ¬ s < 5) : step s c = none := by
  unfold step
  split <;> first | omega | rfl
theorem cs_out {g : Nat → Int} {s : Nat} (hs : ¬ s < 5) : ∀ k, cs g s k = 0
  | 0 => rfl
  | k + 1 => by simp only [cs]; rw [cs_out hs k, step5 hs]; rfl
theorem many_bd : ∀ (n s : Nat), 0 ≤ many n s ∧ many n s ≤ 2 ^ n
  | 0, s => by simp [many]
  | n + 1, s => by
    simp only [many]
    have hp : (0 : Int) ≤ 2 ^ n := Int.pow_nonneg (by omega)
    by_cases hs : s < 5
    · have := cs7_bd hp (many_bd n) hs (Nat.le_refl 7)
      rw [Int.pow_succ]
      omega
    · rw [cs_out hs]
      exact ⟨Int.le_refl _, Int.pow_nonneg (by omega)⟩
theorem pow_small {n : Nat} (h : n ≤ 30) : (2 : Int) ^ n ≤ 1073741824 := by
  have e : (2 : Int) ^ 30 = 1073741824 := by decide
  rw [← e]
  exact_mod_cast Nat.pow_le_pow_right (by omega) h
/-- All sums stay small. -/
theorem many_small {n s : Nat} (h : n ≤ 30) : 0 ≤ many n s ∧ many n s ≤ 1073741824 := by
  have h1 := many_bd n s
  have h2 := pow_small h
  omega
theorem cs_small {n s k : Nat} (h : n ≤ 30) (hk : k ≤ 7) : 0 ≤ cs (many n) s k ∧ cs (many n) s k ≤ 2147483648 := by
  have hp : (0 : Int) ≤ 2 ^ n := Int.pow_nonneg (by omega)
  by_cases hs : s < 5
  · have h1 := cs7_bd hp (many_bd n) hs hk
    have h2 := pow_small h
    omega
  · rw [cs_out hs]; omega
end Go.Proofs.Ytlneedjhdnjnpaa.Bk
