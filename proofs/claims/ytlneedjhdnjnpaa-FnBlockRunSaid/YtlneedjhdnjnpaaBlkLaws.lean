/-
  Plain laws of runs of events: how often letters occur, what can be repeated, what a cycle does. No program in sight.
-/
import Derived.Test.YtlneedjhdnjnpaaBlkD
namespace Go.Proofs.Ytlneedjhdnjnpaa.Bk

/-- A bound that every step keeps: how many events a state has behind it at least, four for each train. -/
def phi : Nat → Nat
  | 1 => 1
  | 2 => 2
  | 3 => 3
  | _ => 0
def psi (s : Nat) : Nat := if s = 3 ∨ s = 4 then 1 else 0
def rho (s : Nat) : Nat := if s = 3 then 1 else 0
def sig (s : Nat) : Nat := if s = 1 then 1 else 0
/-- The steps that there are. -/
theorem step_cases {s c t : Nat} (h : step s c = some t) :
    (s = 0 ∧ c = 111 ∧ t = 1) ∨ (s = 1 ∧ c = 114 ∧ t = 0) ∨ (s = 1 ∧ c = 97 ∧ t = 2) ∨ (s = 2 ∧ c = 99 ∧ t = 0) ∨ (s = 2 ∧ c = 101 ∧ t = 3) ∨ (s = 3 ∧ c = 108 ∧ t = 4) ∨ (s = 4 ∧ c = 102 ∧ t = 0) := by
  unfold step at h
  split at h <;> (repeat' split at h) <;> (first | (injection h with h; omega) | cases h)
theorem nat_eq {c : UInt8} {k : Nat} (h : c.toNat = k) (hk : k < 256) : c = UInt8.ofNat k := by
  apply UInt8.toNat_inj.1
  rw [h, UInt8.toNat_ofNat']
  omega
/-- The same, the letter as a byte. -/
theorem step_bytes {s t : Nat} {c : UInt8} (h : step s c.toNat = some t) :
    (s = 0 ∧ c = 111 ∧ t = 1) ∨ (s = 1 ∧ c = 114 ∧ t = 0) ∨ (s = 1 ∧ c = 97 ∧ t = 2) ∨ (s = 2 ∧ c = 99 ∧ t = 0) ∨ (s = 2 ∧ c = 101 ∧ t = 3) ∨ (s = 3 ∧ c = 108 ∧ t = 4) ∨ (s = 4 ∧ c = 102 ∧ t = 0) := by
  rcases step_cases h with ⟨a, b, d⟩ | ⟨a, b, d⟩ | ⟨a, b, d⟩ | ⟨a, b, d⟩ | ⟨a, b, d⟩ | ⟨a, b, d⟩ | ⟨a, b, d⟩
  · exact .inl ⟨a, nat_eq b (by decide), d⟩
  · exact .inr (.inl ⟨a, nat_eq b (by decide), d⟩)
  · exact .inr (.inr (.inl ⟨a, nat_eq b (by decide), d⟩))
  · exact .inr (.inr (.inr (.inl ⟨a, nat_eq b (by decide), d⟩)))
  · exact .inr (.inr (.inr (.inr (.inl ⟨a, nat_eq b (by decide), d⟩))))
  · exact .inr (.inr (.inr (.inr (.inr (.inl ⟨a, nat_eq b (by decide), d⟩)))))
  · exact .inr (.inr (.inr (.inr (.inr (.inr ⟨a, nat_eq b (by decide), d⟩)))))
theorem runS_cons {s t : Nat} {c : UInt8} {cs : List UInt8} (h : runS s (c :: cs) = some t) : ∃ u, step s c.toNat = some u ∧ runS u cs = some t := by
  simp only [runS] at h
  cases e : step s c.toNat with
  | none => rw [e] at h; cases h
  | some u => rw [e] at h; exact ⟨u, rfl, h⟩
/-- Four laws of counting, at once. -/
theorem run_counts : ∀ (l : List UInt8) {s t : Nat}, runS s l = some t →
    phi t + 4 * l.count 108 ≤ phi s + l.length ∧ l.count 101 + psi s = l.count 102 + psi t ∧ l.count 101 + rho s = l.count 108 + rho t ∧ l.count 97 + sig t ≤ l.count 111 + sig s
  | [], s, t, h => by
    simp only [runS] at h
    injection h with h
    subst h
    simp
  | c :: cs, s, t, h => by
    obtain ⟨u, h1, h2⟩ := runS_cons h
    obtain ⟨i1, i2, i3, i4⟩ := run_counts cs h2
    rcases step_bytes h1 with ⟨rfl, rfl, rfl⟩ | ⟨rfl, rfl, rfl⟩ | ⟨rfl, rfl, rfl⟩ | ⟨rfl, rfl, rfl⟩ | ⟨rfl, rfl, rfl⟩ | ⟨rfl, rfl, rfl⟩ | ⟨rfl, rfl, rfl⟩ <;>
      simp only [phi, psi, rho, sig, List.count_cons, List.length_cons] at i1 i2 i3 i4 ⊢ <;>
      simp at i1 i2 i3 i4 ⊢ <;> omega
theorem legal_run {l : List UInt8} (h : legal l = true) : l.length ≤ 30 ∧ ∃ t, t < 5 ∧ runS 0 l = some t ∧ runR 0 false false l = some t := by
  unfold legal at h
  cases e : runR 0 false false l with
  | none => rw [e] at h; cases h
  | some t =>
    have hlt := runR_lt e
    by_cases hl : l.length ≤ 30
    · have e2 := e
      rw [runR_some (s := 0) rfl hl] at e2
      exact ⟨hl, t, hlt, e2, rfl⟩
    · rw [runR_long (by omega)] at e; cases e
theorem legal_of {l : List UInt8} {t : Nat} (hl : l.length ≤ 30) (h : runS 0 l = some t) : legal l = true ∧ runR 0 false false l = some t := by
  have : runR 0 false false l = some t := by rw [runR_some (s := 0) rfl hl]; exact h
  exact ⟨by unfold legal; rw [this]; rfl, this⟩
theorem run_cyc (l : List UInt8) : runS 0 (cyc ++ l) = runS 0 l := by
  rw [runS_append]
  rfl
theorem trains_law {l : List UInt8} (h : legal l = true) : 4 * l.count 108 ≤ l.length ∧ (5 + l.length ≤ 30 → legal (cyc ++ l) = true ∧ (cyc ++ l).count 108 = l.count 108 + 1) := by
  obtain ⟨hl, t, ht, hr, _⟩ := legal_run h
  refine ⟨by have := (run_counts l hr).1; simp [phi] at this; omega, fun h5 => ⟨(legal_of (t := t) (by rw [List.length_append]; exact h5) (by rw [run_cyc]; exact hr)).1, ?_⟩⟩
  rw [List.count_append]
  show 1 + _ = _
  omega
theorem normal_run {l : List UInt8} (h : normalB l = true) : runR 0 false false l = some 0 := by
  unfold normalB at h
  simpa using h
theorem normal_law {l : List UInt8} (h : normalB l = true) : legal l = true ∧ (2 * l.length ≤ 30 → legal (l ++ l) = true ∧ normalB (l ++ l) = true) ∧ l.count 101 = l.count 102 := by
  have hr := normal_run h
  have hleg : legal l = true := by unfold legal; rw [hr]; rfl
  obtain ⟨hl, t, ht, hrs, hrr⟩ := legal_run hleg
  obtain rfl : t = 0 := by rw [hr] at hrr; injection hrr with e; exact e.symm
  refine ⟨hleg, fun h2 => ?_, ?_⟩
  · have h3 := legal_of (l := l ++ l) (t := 0) (by rw [List.length_append]; omega) (by rw [runS_append, hrs]; exact hrs)
    exact ⟨h3.1, by unfold normalB; rw [h3.2]; rfl⟩
  · have := (run_counts l hrs).2.1
    simp [psi] at this
    exact this
theorem safe_law {l : List UInt8} (h : legal l = true) : (l.count 101 = l.count 108 ∨ l.count 101 = l.count 108 + 1) ∧ l.count 97 ≤ l.count 111 := by
  obtain ⟨hl, t, ht, hr, _⟩ := legal_run h
  obtain ⟨h1, h2⟩ := (run_counts l hr).2.2
  have e1 : rho 0 = 0 := rfl
  have e2 : sig 0 = 0 := rfl
  have e3 : rho t ≤ 1 := by unfold rho; split <;> omega
  rw [e1] at h1
  rw [e2] at h2
  exact ⟨by omega, by omega⟩
theorem cyc_law : ∀ m, m ≤ 6 → normalB (Lib.repeatL cyc m) = true ∧ legal (Lib.repeatL cyc m) = true ∧ (Lib.repeatL cyc m).count 108 = m ∧ (Lib.repeatL cyc m).length = 5 * m := by
  intro m hm
  have : m = 0 ∨ m = 1 ∨ m = 2 ∨ m = 3 ∨ m = 4 ∨ m = 5 ∨ m = 6 := by omega
  rcases this with rfl | rfl | rfl | rfl | rfl | rfl | rfl <;> exact ⟨by decide, by decide, by decide, by decide⟩
/-- What the law FnBlockSafe has seen last, by the state. -/
def waitOk (s : Nat) (w : List UInt8) : Prop :=
  match s with
  | 3 => w = [101]
  | 4 => w = [108]
  | 2 => w = [] ∨ w = [108, 102, 97]
  | _ => w = [] ∨ w = [108, 102] ∨ w = [108, 102, 97]
end Go.Proofs.Ytlneedjhdnjnpaa.Bk
