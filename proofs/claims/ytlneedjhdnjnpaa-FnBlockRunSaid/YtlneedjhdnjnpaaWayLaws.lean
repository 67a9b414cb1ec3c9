/-
  Plain laws of shortest texts: they lead there, none is shorter, what is left is shortest again. No program in sight.
-/
import Derived.Test.YtlneedjhdnjnpaaWayPlain
import Derived.Test.YtlneedjhdnjnpaaBlkLaws
namespace Go.Proofs.Ytlneedjhdnjnpaa.Bk

/-- What holds of a shortest text. -/
def wTail (s t : Nat) : List UInt8 → Bool
  | [] => true
  | c :: r => (step s c.toNat == some (go s c)) && (decide (go s c < 5) && (wayR (go s c) t == some r))
def wOk (s t : Nat) : Bool := match wayR s t with
  | none => false
  | some r => decide (r.length ≤ 5) && ((runS s r == some t) && ((r.isEmpty == (s == t)) && wTail s t r))
theorem wOk_all {s t : Nat} (hs : s < 5) (ht : t < 5) : wOk s t = true := by
  rcases lt5 hs with rfl | rfl | rfl | rfl | rfl <;> rcases lt5 ht with rfl | rfl | rfl | rfl | rfl <;> decide
theorem way_law {s t : Nat} (hs : s < 5) (ht : t < 5) : ∃ r, wayR s t = some r ∧ r.length ≤ 5 ∧ runS s r = some t ∧ r.isEmpty = (s == t) ∧ wTail s t r = true := by
  have h := wOk_all hs ht
  unfold wOk at h
  cases e : wayR s t with
  | none => rw [e] at h; cases h
  | some r =>
    rw [e] at h
    simp only [Bool.and_eq_true, decide_eq_true_eq, beq_iff_eq] at h
    exact ⟨r, rfl, h.1, h.2.1, h.2.2.1, h.2.2.2⟩
theorem wTail_cons {s t : Nat} {c : UInt8} {r : List UInt8} (h : wTail s t (c :: r) = true) : step s c.toNat = some (go s c) ∧ go s c < 5 ∧ wayR (go s c) t = some r := by
  simp only [wTail, Bool.and_eq_true, decide_eq_true_eq, beq_iff_eq] at h
  exact ⟨h.1, h.2.1, h.2.2⟩
/-- How many events the shortest text has. -/
def dist (s t : Nat) : Nat := ((wayR s t).getD []).length
theorem dist_step {s u v : Nat} {c : UInt8} (h : step s c.toNat = some u) (hv : v < 5) : dist s v ≤ dist u v + 1 := by
  rcases step_bytes h with ⟨rfl, _, rfl⟩ | ⟨rfl, _, rfl⟩ | ⟨rfl, _, rfl⟩ | ⟨rfl, _, rfl⟩ | ⟨rfl, _, rfl⟩ | ⟨rfl, _, rfl⟩ | ⟨rfl, _, rfl⟩ <;>
    rcases lt5 hv with rfl | rfl | rfl | rfl | rfl <;> decide
theorem dist_self {v : Nat} (hv : v < 5) : dist v v = 0 := by
  rcases lt5 hv with rfl | rfl | rfl | rfl | rfl <;> decide
theorem way_short : ∀ (l : List UInt8) {s v : Nat}, v < 5 → runS s l = some v → dist s v ≤ l.length
  | [], s, v, hv, h => by
    simp only [runS] at h
    injection h with h
    subst h
    rw [dist_self hv]
    exact Nat.zero_le _
  | c :: cs, s, v, hv, h => by
    obtain ⟨u, h1, h2⟩ := runS_cons h
    have h3 := way_short cs hv h2
    have h4 := dist_step h1 hv
    rw [List.length_cons]
    omega
theorem wayB_some {n : Int} {i o : Bool} {m : Int} {j p : Bool} {r : List UInt8} (h : wayB n i o m j p = some r) : ∃ s t, s < 5 ∧ t < 5 ∧ nd s = n ∧ ins s = i ∧ off s = o ∧ nd t = m ∧ ins t = j ∧ off t = p ∧ wayR s t = some r := by
  unfold wayB at h
  cases e : stOf n i o with
  | none => rw [e] at h; cases h
  | some s =>
    rw [e] at h
    cases e2 : stOf m j p with
    | none => rw [e2] at h; cases h
    | some t =>
      rw [e2] at h
      obtain ⟨h1, h2, h3, h4⟩ := stOf_lt e
      obtain ⟨k1, k2, k3, k4⟩ := stOf_lt e2
      exact ⟨s, t, h1, k1, h2, h3, h4, k2, k3, k4, h⟩
theorem wayB_of {s t : Nat} (hs : s < 5) (ht : t < 5) : wayB (nd s) (ins s) (off s) (nd t) (ins t) (off t) = wayR s t := by
  unfold wayB; rw [stOf_st hs, stOf_st ht]; rfl
end Go.Proofs.Ytlneedjhdnjnpaa.Bk
