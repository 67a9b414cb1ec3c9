/-
  Plain laws of the shortest texts from a block to another one: how the reference finds them, how the program does. No program in sight.
-/
import Derived.Test.YtlneedjhdnjnpaaBlkB
namespace Go.Proofs.Ytlneedjhdnjnpaa.Bk

/-- The letters that can be done in a state. -/
def nl : Nat → List UInt8
  | 0 => [111]
  | 1 => [97, 114]
  | 2 => [99, 101]
  | 3 => [108]
  | 4 => [102]
  | _ => []
theorem lt5 {s : Nat} (h : s < 5) : s = 0 ∨ s = 1 ∨ s = 2 ∨ s = 3 ∨ s = 4 := by omega
theorem next_nl {s : Nat} (h : s < 5) : next (nd s) (ins s) (off s) = nl s := by
  rcases lt5 h with rfl | rfl | rfl | rfl | rfl <;> decide
theorem nl_len {s : Nat} (h : s < 5) : 1 ≤ (nl s).length ∧ (nl s).length ≤ 2 := by
  rcases lt5 h with rfl | rfl | rfl | rfl | rfl <;> decide
/-- The state behind a letter that can be done. -/
def go (s : Nat) (c : UInt8) : Nat := (step s c.toNat).getD 0
theorem nl_step {s : Nat} (h : s < 5) {c : UInt8} (hc : c ∈ nl s) : step s c.toNat = some (go s c) ∧ go s c < 5 := by
  have : ∀ s', s' < 5 → ∀ c ∈ nl s', step s' c.toNat = some (go s' c) ∧ go s' c < 5 := by decide
  exact this s h c hc
theorem st_eq {s t : Nat} (hs : s < 5) (ht : t < 5) : (nd s == nd t && (ins s == ins t && off s == off t)) = (s == t) := by
  have : ∀ s', s' < 5 → ∀ t', t' < 5 → (nd s' == nd t' && (ins s' == ins t' && off s' == off t')) = (s' == t') := by decide
  exact this s hs t ht
/-- The first text of n events that leads from a state to another one (the reference's). -/
def wayN (t : Nat) : Nat → Nat → Option (List UInt8)
  | 0, s => if s = t then some [] else none
  | n + 1, s => (nl s).findSome? fun c => (wayN t n (go s c)).map fun r => c :: r
/-- One letter's try. -/
def wtry (t n s : Nat) (c : UInt8) : Option (List UInt8) := (wayN t n (go s c)).map fun r => c :: r
theorem wayN_len (t : Nat) : ∀ n s {r : List UInt8}, wayN t n s = some r → r.length = n
  | 0, s, r, h => by
    simp only [wayN] at h
    split at h
    · injection h with h; subst h; rfl
    · cases h
  | n + 1, s, r, h => by
    simp only [wayN] at h
    obtain ⟨c, _, hc⟩ := List.exists_of_findSome?_eq_some h
    cases e : wayN t n (go s c) with
    | none => rw [e] at hc; cases hc
    | some r' =>
      rw [e] at hc
      simp at hc
      subst hc
      have := wayN_len t n (go s c) e
      simp [this]
theorem way_hit {t n s k : Nat} {c : UInt8} {r : List UInt8} (hk : (nl s)[k]? = some c) (h0 : ∀ d ∈ (nl s).take k, wtry t n s d = none) (h1 : wayN t n (go s c) = some r) : wayN t (n + 1) s = some (c :: r) := by
  simp only [wayN]
  obtain ⟨hlt, hc⟩ := List.getElem?_eq_some_iff.1 hk
  have e0 : (nl s).findSome? (fun c => (wayN t n (go s c)).map fun r => c :: r) = ((nl s).take k ++ (nl s).drop k).findSome? (fun c => (wayN t n (go s c)).map fun r => c :: r) := by rw [List.take_append_drop]
  rw [e0, List.findSome?_append]
  have e1 : (List.take k (nl s)).findSome? (fun c => (wayN t n (go s c)).map fun r => c :: r) = none := List.findSome?_eq_none_iff.2 (fun d hd => h0 d hd)
  rw [e1, List.drop_eq_getElem_cons hlt, hc]
  simp [h1]
theorem way_miss {t n s : Nat} (h0 : ∀ d ∈ nl s, wtry t n s d = none) : wayN t (n + 1) s = none := by
  simp only [wayN]
  exact List.findSome?_eq_none_iff.2 h0
/-- What BlockWay returns, from a state to a state. -/
def wayR (s t : Nat) : Option (List UInt8) := (List.range 10).findSome? fun n => wayN t n s
theorem wayR_hit {s t n : Nat} {r : List UInt8} (hn : n < 10) (h0 : ∀ m, m < n → wayN t m s = none) (h1 : wayN t n s = some r) : wayR s t = some r := by
  unfold wayR
  have e : List.range 10 = List.range n ++ (List.range (10 - n)).map (n + ·) := by
    rw [← List.range_add]; congr 1; omega
  rw [e, List.findSome?_append]
  have e1 : (List.range n).findSome? (fun m => wayN t m s) = none := List.findSome?_eq_none_iff.2 (fun m hm => h0 m (List.mem_range.1 hm))
  rw [e1]
  obtain ⟨j, hj⟩ : ∃ j, 10 - n = j + 1 := ⟨9 - n, by omega⟩
  rw [hj, List.range_succ_eq_map]
  simp [h1]
theorem wayR_some {s t : Nat} (hs : s < 5) (ht : t < 5) : (wayR s t).isSome = true := by
  have : ∀ s', s' < 5 → ∀ t', t' < 5 → (wayR s' t').isSome = true := by decide
  exact this s hs t ht
theorem wayR_at {s t : Nat} (h : ∀ m, m < 10 → wayN t m s = none) : wayR s t = none := by
  unfold wayR
  exact List.findSome?_eq_none_iff.2 (fun m hm => h m (List.mem_range.1 hm))
/-- What BlockWay returns, from a block to a block. -/
def wayB (n : Int) (i o : Bool) (m : Int) (j p : Bool) : Option (List UInt8) := (stOf n i o).bind fun s => (stOf m j p).bind fun t => wayR s t
/-- The program's search: one block is looked at, its letters are tried. -/
def bIn (f : Nat × List UInt8) (all : List (Nat × List UInt8)) : Nat → List (Nat × List UInt8)
  | 0 => all
  | j + 1 =>
    let a := bIn f all j
    let c := (nl f.1).getD j 0
    if a.any (fun p => p.1 == go f.1 c) then a else a ++ [(go f.1 c, f.2 ++ [c])]
def bOut (s : Nat) : Nat → List (Nat × List UInt8)
  | 0 => [(s, [])]
  | i + 1 =>
    let a := bOut s i
    let f := a.getD i (0, [])
    bIn f a (nl f.1).length
/-- Where the program finds a state. -/
def bIdx (s t : Nat) : Nat := (bOut s 5).findIdx (fun p => p.1 == t)
theorem b_facts {s t : Nat} (hs : s < 5) (ht : t < 5) : bIdx s t < 5 ∧ (∀ i, i ≤ bIdx s t → i < (bOut s i).length ∧ (bOut s i).length ≤ 5 ∧ ((bOut s i).getD i (0, [])).1 < 5 ∧ ((bOut s i).getD i (0, [])).2.length ≤ 5 ∧ (((bOut s i).getD i (0, [])).1 = t ↔ i = bIdx s t)) ∧ wayR s t = some (((bOut s (bIdx s t)).getD (bIdx s t) (0, [])).2) := by
  rcases lt5 hs with rfl | rfl | rfl | rfl | rfl <;> rcases lt5 ht with rfl | rfl | rfl | rfl | rfl <;>
    refine ⟨by decide, fun i hi => ?_, by decide⟩
  all_goals
    have h5 : i < 5 := Nat.lt_of_le_of_lt hi (by decide)
    rcases lt5 h5 with rfl | rfl | rfl | rfl | rfl <;> first | exact ⟨by decide, by decide, by decide, by decide, by decide⟩ | exact absurd hi (by decide)
end Go.Proofs.Ytlneedjhdnjnpaa.Bk
