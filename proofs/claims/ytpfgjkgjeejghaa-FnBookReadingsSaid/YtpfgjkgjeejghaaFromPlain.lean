/-
  Plain laws of a code's text: the reader that takes every second byte for a digit and writes it back (the reference) and the reader that looks at each byte (the program) accept the same texts.
-/
import Derived.Test.YtpfgjkgjeejghaaCodesPlain
namespace Go.Proofs.Ytpfgjkgjeejghaa.Cd

/-- Every second byte as a number. -/
def ev : List UInt8 → List Int
  | [] => []
  | [a] => [(a.toNat : Int) - 48]
  | a :: _ :: r => ((a.toNat : Int) - 48) :: ev r
def dig (z : Int) : UInt8 := UInt8.ofNat (48 + z).toNat
/-- The numbers as digits, with hyphens between. -/
def txt : List Int → List UInt8
  | [] => []
  | [z] => [dig z]
  | z :: z' :: zs => dig z :: 45 :: txt (z' :: zs)
def inB (z : Int) : Bool := decide (1 ≤ z) && decide (z ≤ 6)
def validB (zs : List Int) : Bool := zs.all inB && (decide (1 ≤ zs.length) && decide (zs.length ≤ 5))
/-- What the program asks of a byte at place i. -/
def okAt (i : Nat) (c : UInt8) : Bool := if i % 2 = 1 then c == 45 else decide (49 ≤ c.toNat) && decide (c.toNat ≤ 54)
def okFrom : Nat → List UInt8 → Bool
  | _, [] => true
  | i, c :: cs => okAt i c && okFrom (i + 1) cs
def okS (s : List UInt8) : Bool := decide (s.length % 2 = 1) && decide (s.length ≤ 9) && okFrom 0 s
def codeText (zs : List Int) : List UInt8 := if validB zs then txt zs else []

theorem dig_of {a : UInt8} (h1 : 49 ≤ a.toNat) (_h2 : a.toNat ≤ 54) : dig ((a.toNat : Int) - 48) = a := by
  unfold dig
  have : (48 + ((a.toNat : Int) - 48)).toNat = a.toNat := by omega
  rw [this]
  exact UInt8.ofNat_toNat
theorem okFrom_two (i : Nat) (s : List UInt8) : okFrom (i + 2) s = okFrom i s := by
  induction s generalizing i with
  | nil => rfl
  | cons c cs ih =>
    have e : (i + 2) % 2 = i % 2 := by omega
    simp only [okFrom, okAt, e]
    rw [show i + 2 + 1 = (i + 1) + 2 from by omega, ih]
theorem ev_len : ∀ s : List UInt8, (ev s).length = (s.length + 1) / 2
  | [] => rfl
  | [a] => by simp [ev]
  | a :: b :: r => by simp only [ev, List.length_cons, ev_len r]; omega
theorem inB_iff (z : Int) : inB z = true ↔ 1 ≤ z ∧ z ≤ 6 := by simp [inB]

/-- A text whose bytes are as they should be is written back; and only such a one. -/
theorem back_iff : ∀ s : List UInt8, ((ev s).all inB = true ∧ txt (ev s) = s) ↔ (s = [] ∨ s.length % 2 = 1) ∧ okFrom 0 s = true
  | [] => by simp [ev, txt, okFrom]
  | [a] => by
    simp only [ev, txt, List.all_cons, List.all_nil, Bool.and_true, inB_iff, okFrom, okAt, List.length_cons, List.length_nil]
    constructor
    · rintro ⟨⟨h1, h2⟩, _⟩
      simp; omega
    · rintro ⟨_, h⟩
      simp at h
      refine ⟨by omega, ?_⟩
      rw [dig_of h.1 h.2]
  | [a, b] => by
    simp only [ev, txt, okFrom, okAt]
    simp
  | a :: b :: c :: r => by
    have ih := back_iff (c :: r)
    obtain ⟨z, zs, hz⟩ : ∃ z zs, ev (c :: r) = z :: zs := by
      cases r with
      | nil => exact ⟨_, _, rfl⟩
      | cons d r => exact ⟨_, _, rfl⟩
    have e2 : okFrom 0 (a :: b :: c :: r) = (okAt 0 a && (okAt 1 b && okFrom 0 (c :: r))) := by
      show (okAt 0 a && (okAt 1 b && okFrom (0 + 2) (c :: r))) = _
      rw [okFrom_two]
    rw [e2]
    have e3 : ev (a :: b :: c :: r) = ((a.toNat : Int) - 48) :: z :: zs := by simp only [ev, hz]
    have e4 : (a :: b :: c :: r).length % 2 = 1 ↔ (c :: r).length % 2 = 1 := by simp only [List.length_cons]; omega
    rw [e3]
    rw [hz] at ih
    simp only [txt, List.all_cons (a := (a.toNat : Int) - 48), Bool.and_eq_true, inB_iff, List.cons.injEq, reduceCtorEq, false_or, e4]
    simp only [reduceCtorEq, false_or] at ih
    constructor
    · rintro ⟨⟨h1, h2⟩, h3, h4, h5⟩
      obtain ⟨i1, i2⟩ := ih.1 ⟨by simpa using h2, h5⟩
      refine ⟨i1, ?_, ?_, i2⟩
      · simp [okAt]; omega
      · simp [okAt, ← h4]
    · rintro ⟨h1, h2, h3, h4⟩
      obtain ⟨i1, i2⟩ := ih.2 ⟨h1, h4⟩
      simp [okAt] at h2 h3
      refine ⟨⟨by omega, by simpa using i1⟩, dig_of h2.1 h2.2, h3.symm, i2⟩

theorem from_iff (s : List UInt8) : (s ≠ [] ∧ codeText (ev s) = s) ↔ okS s = true := by
  have hb := back_iff s
  have hl := ev_len s
  by_cases h0 : s = []
  · subst h0; simp [okS]
  · have hpos : 0 < s.length := List.length_pos_iff.2 h0
    simp only [okS, Bool.and_eq_true, decide_eq_true_eq, codeText]
    constructor
    · rintro ⟨_, h⟩
      by_cases hv : validB (ev s) = true
      · rw [if_pos hv] at h
        simp only [validB, Bool.and_eq_true, decide_eq_true_eq] at hv
        obtain ⟨h1, h2⟩ := hb.1 ⟨hv.1, h⟩
        have h3 : s.length % 2 = 1 := by rcases h1 with h1 | h1
                                         · exact absurd h1 h0
                                         · exact h1
        exact ⟨⟨h3, by omega⟩, h2⟩
      · rw [if_neg hv] at h
        exact absurd h.symm h0
    · rintro ⟨⟨h1, h2⟩, h3⟩
      obtain ⟨h4, h5⟩ := hb.2 ⟨.inr h1, h3⟩
      have hv : validB (ev s) = true := by
        simp only [validB, Bool.and_eq_true, decide_eq_true_eq]
        exact ⟨h4, by omega, by omega⟩
      rw [if_pos hv]
      exact ⟨h0, h5⟩
end Go.Proofs.Ytpfgjkgjeejghaa.Cd
