/-
  Plain laws of block instruments: the five states, what each event does, whether a block is possible.
-/
namespace Go.Proofs.Ytmplanlppjebnaa.Bk

/-- The needle of each state. -/
def nd : Nat → Int
  | 0 => 0
  | 1 => 0
  | 2 => 1
  | _ => 2
/-- Whether a train is inside. -/
def ins (s : Nat) : Bool := s == 3
/-- Whether a train is offered. -/
def off (s : Nat) : Bool := s == 1
/-- The state of a possible block. -/
def stOf (n : Int) (i o : Bool) : Option Nat :=
  if n = 0 ∧ i = false ∧ o = false then some 0
  else if n = 0 ∧ i = false ∧ o = true then some 1
  else if n = 1 ∧ i = false ∧ o = false then some 2
  else if n = 2 ∧ i = true ∧ o = false then some 3
  else if n = 2 ∧ i = false ∧ o = false then some 4
  else none
def possible (n : Int) (i o : Bool) : Bool := (stOf n i o).isSome
theorem stOf_lt {n : Int} {i o : Bool} {s : Nat} (h : stOf n i o = some s) : s < 5 ∧ nd s = n ∧ ins s = i ∧ off s = o := by
  unfold stOf at h
  repeat' split at h
  all_goals first
    | (injection h with h; subst h; rename_i hh; obtain ⟨rfl, rfl, rfl⟩ := hh; exact ⟨by omega, rfl, rfl, rfl⟩)
    | cases h
theorem stOf_st {s : Nat} (h : s < 5) : stOf (nd s) (ins s) (off s) = some s := by
  have : s = 0 ∨ s = 1 ∨ s = 2 ∨ s = 3 ∨ s = 4 := by omega
  rcases this with rfl | rfl | rfl | rfl | rfl <;> rfl
theorem stOf_none {n : Int} {i o : Bool} (h : stOf n i o = none) {s : Nat} (hs : s < 5) : ¬ (nd s = n ∧ ins s = i ∧ off s = o) := by
  rintro ⟨rfl, rfl, rfl⟩
  rw [stOf_st hs] at h
  cases h
theorem possible_iff (n : Int) (i o : Bool) : possible n i o = (decide (0 ≤ n) && decide (n ≤ 2) && (!i || decide (n = 2)) && (!o || decide (n = 0))) := by
  unfold possible stOf
  cases i <;> cases o <;> simp
  all_goals (repeat' split) <;> simp_all <;> omega
/-- The state behind an event, if it can be done. -/
def step (s : Nat) (c : Nat) : Option Nat :=
  match s with
  | 0 => if c = 111 then some 1 else none
  | 1 => if c = 114 then some 0 else if c = 97 then some 2 else none
  | 2 => if c = 99 then some 0 else if c = 101 then some 3 else none
  | 3 => if c = 108 then some 4 else none
  | 4 => if c = 102 then some 0 else none
  | _ => none
theorem step_lt {s c t : Nat} (h : step s c = some t) : t < 5 := by
  unfold step at h
  split at h <;> (repeat' split at h) <;> (first | (injection h with h; omega) | cases h)
/-- The state behind the events of a text. -/
def runS : Nat → List UInt8 → Option Nat
  | s, [] => some s
  | s, c :: cs => match step s c.toNat with
    | some t => runS t cs
    | none => none
/-- What BlockRun returns. -/
def runR (n : Int) (i o : Bool) (l : List UInt8) : Option Nat := if l.length ≤ 30 then (stOf n i o).bind fun s => runS s l else none
/-- What BlockStep returns. -/
def stepR (n : Int) (i o : Bool) (l : List UInt8) : Option Nat := (stOf n i o).bind fun s => match l with
  | [c] => step s c.toNat
  | _ => none
theorem runS_append (a b : List UInt8) : ∀ s, runS s (a ++ b) = (runS s a).bind fun t => runS t b := by
  induction a with
  | nil => intro s; rfl
  | cons c cs ih =>
    intro s
    simp only [List.cons_append, runS]
    cases step s c.toNat with
    | none => rfl
    | some t => exact ih t
theorem runS_lt : ∀ (l : List UInt8) {s t : Nat}, s < 5 → runS s l = some t → t < 5
  | [], s, t, hs, h => by simp only [runS] at h; injection h with h; omega
  | c :: cs, s, t, hs, h => by
    simp only [runS] at h
    cases e : step s c.toNat with
    | none => rw [e] at h; cases h
    | some u => rw [e] at h; exact runS_lt cs (step_lt e) h
theorem runS_next {s t u k : Nat} {l : List UInt8} {c : UInt8} (hc : l[k]? = some c) (h : runS s (l.take k) = some t) (hs : step t c.toNat = some u) : runS s (l.take (k + 1)) = some u := by
  obtain ⟨hk, rfl⟩ := List.getElem?_eq_some_iff.1 hc
  rw [List.take_succ_eq_append_getElem hk, runS_append, h]
  simp [runS, hs]
theorem runS_stop {s t k : Nat} {l : List UInt8} {c : UInt8} (hc : l[k]? = some c) (h : runS s (l.take k) = some t) (hs : step t c.toNat = none) : runS s l = none := by
  obtain ⟨hk, rfl⟩ := List.getElem?_eq_some_iff.1 hc
  rw [← List.take_append_drop k l, runS_append, h, List.drop_eq_getElem_cons hk]
  simp [runS, hs]
theorem runR_none {n : Int} {i o : Bool} (h : stOf n i o = none) (l : List UInt8) : runR n i o l = none := by
  unfold runR; rw [h]; split <;> rfl
theorem runR_long {n : Int} {i o : Bool} {l : List UInt8} (h : 30 < l.length) : runR n i o l = none := by
  unfold runR; rw [if_neg (by omega)]
theorem runR_some {n : Int} {i o : Bool} {s : Nat} (h : stOf n i o = some s) {l : List UInt8} (hl : l.length ≤ 30) : runR n i o l = runS s l := by
  unfold runR; rw [if_pos hl, h]; rfl
theorem stepR_none {n : Int} {i o : Bool} (h : stOf n i o = none) (l : List UInt8) : stepR n i o l = none := by unfold stepR; rw [h]; rfl
theorem stepR_len {n : Int} {i o : Bool} {l : List UInt8} (h : l.length ≠ 1) : stepR n i o l = none := by
  unfold stepR
  cases stOf n i o with
  | none => rfl
  | some s =>
    match l, h with
    | [], _ => rfl
    | [c], h => simp at h
    | _ :: _ :: _, _ => rfl
theorem stepR_some {n : Int} {i o : Bool} {s : Nat} (h : stOf n i o = some s) (c : UInt8) : stepR n i o [c] = step s c.toNat := by unfold stepR; rw [h]; rfl
end Go.Proofs.Ytmplanlppjebnaa.Bk
