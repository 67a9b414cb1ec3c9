/-
  Plain laws of block instruments: the five states, what each event does, whether a block is possible.
-/
namespace Go.Proofs.Ytagboepkmedggaa.Bk

/-- The needle of each state. -/
def nd : Nat → Int
  | 0 => 0
  | 1 => 0
  | 2 => 1
  | _ => 2
/-- Whether a train is inside. -/
def ins (s : Nat) : Bool := s == 3
/-- Whether a train is offered. -/
def off (s : Nat) : Bool := s == 1
/-- The state of a possible block. -/
def stOf (n : Int) (i o : Bool) : Option Nat :=
  if n = 0 ∧ i = false ∧ o = false then some 0
  else if n = 0 ∧ i = false ∧ o = true then some 1
  else if n = 1 ∧ i = false ∧ o = false then some 2
  else if n = 2 ∧ i = true ∧ o = false then some 3
  else if n = 2 ∧ i = false ∧ o = false then some 4
  else none
def possible (n : Int) (i o : Bool) : Bool := (stOf n i o).isSome
theorem stOf_lt {n : Int} {i o : Bool} {s : Nat} (h : stOf n i o = some s) : s < 5 ∧ nd s = n ∧ ins s = i ∧ off s = o := by
  unfold stOf at h
  repeat' split at h
  all_goals first
    | (injection h with h; subst h; rename_i hh; obtain ⟨rfl, rfl, rfl⟩ := hh; exact ⟨by omega, rfl, rfl, rfl⟩)
    | cases h
theorem stOf_st {s : Nat} (h : s < 5) : stOf (nd s) (ins s) (off s) = some s := by
  have : s = 0 ∨ s = 1 ∨ s = 2 ∨ s = 3 ∨ s = 4 := by omega
  rcases this with rfl | rfl | rfl | rfl | rfl <;> rfl
theorem stOf_none {n : Int} {i o : Bool} (h : stOf n i o = none) {s : Nat} (hs : s < 5) : ¬ (nd s = n ∧ ins s = i ∧ off s = o) := by
  rintro ⟨rfl, rfl, rfl⟩
  rw [stOf_st hs] at h
  cases h
theorem possible_iff (n : Int) (i o : Bool) : possible n i o = (decide (0 ≤ n) && decide (n ≤ 2) && (!i || decide (n = 2)) && (!o || decide (n = 0))) := by
  unfold possible stOf
  cases i <;> cases o <;> simp
  all_goals (repeat' split) <;> simp_all <;> omega
/-- The state behind an event, if it can be done. -/
def step (s : Nat) (c : Nat) : Option Nat :=
  match s with
  | 0 => if c = 111 then some 1 else none
  | 1 => if c = 114 then some 0 else if c = 97 then some 2 else none
  | 2 => if c = 99 then some 0 else if c = 101 then some 3 else none
  | 3 => if c = 108 then some 4 else none
  | 4 => if c = 102 then some 0 else none
  | _ => none
theorem step_lt {s c t : Nat} (h : step s c = some t) : t < 5 := by
  unfold step at h
  split at h <;> (repeat' split at h) <;> (first | (injection h with h; omega) | cases h)
end Go.Proofs.Ytagboepkmedggaa.Bk
