/-
  For every number and every two paths the law FnExactPathClash returns true and leaves its arguments as they were.
  Conditions: none.
-/
import Derived.Test.YtpfgjkgjeejghaaRows
import Derived.Test.YtpfgjkgjeejghaaLawPath3
import Derived.Test.YtpfgjkgjeejghaaFrameKit
import Derived.WalkKit
import Derived.ProofKit
import Derived.OpenShut
import Derived.ShutString
import Derived.ChangeOld
import Derived.Below
import Derived.Lib.SmallJoins
namespace Go.Proofs.Ytpfgjkgjeejghaa.fnExactPathClash
open Go.ChangeShapes Go.WideShapes Go.ChangeAt Go.RowKit Go.Joins
open Go.ChangeMaps (open_string shut_string)
set_option linter.unusedVariables false

theorem own : ownKnob Try.prog.godebug = none := by kernel_rfl
theorem laidOut : laidOutB Try.prog = true := by kernel_rfl

set_option maxRecDepth 100000 in
theorem lifted (os : Os) (started : os.Started) (H : Type) (enc : TypeId × Value → H) :
    ReturnsInHanded {} Try.checked os 6 .any (Rows.fnExactPathClashSpec.pre6 enc Try.prog Try.f6 Rows.fnExactPathClashRow.domain false) (Rows.fnExactPathClashSpec.post enc Try.prog Try.f6 false true false false) := by
  refine returnsInHanded_of_change (C := Try.checked) own started (by kernel_rfl) Try.func6
    (ChangeSpec.witness6 (enc := enc) (C := Try.checked) false ⟨#[], #[.int .i64 0, .agg #[.slice none 0 0, .slice none 0 0], .agg #[.slice none 0 0, .slice none 0 0]], []⟩ 8 (by kernel_rfl) (by kernel_rfl) (by kernel_rfl) (by kernel_rfl)) ?_
  intro W base args ds gs before hval0 hW hcnd _
  have hval : ∀ (j : Nat) t v, Try.f6.params[j]? = some t → args[j]? = some v → Value.okWide Try.prog W .any base t v := hval0
  have hW' := hW
  obtain ⟨p, q, hA0, hV, rfl, hfz, hnd⟩ := hW
  have hA : DataW.TrodAll enc Try.prog W 0 (fun _ => true) true Try.f6.params.toList args.toList ds p := hA0
  rw [Try.params6] at hA hval
  obtain ⟨v0, vs0, d0, ds0, p0, q0, hargs, rfl, rfl, h0, r0⟩ := trodAll_cons hA
  obtain ⟨v1, vs1, d1, ds1, p1, q1, rfl, rfl, rfl, h1, r1⟩ := trodAll_cons r0
  obtain ⟨v2, vs2, d2, ds2, p2, q2, rfl, rfl, rfl, h2, r2⟩ := trodAll_cons r1
  obtain ⟨rfl, rfl, rfl⟩ := trodAll_nil r2
  obtain rfl : args = #[v0, v1, v2] := by cases args; simp_all
  obtain ⟨rfl, rfl⟩ := trodVars_none hV
  have k0 := h0
  have lt0 : ∀ x ∈ p0, x.block < W.heap.size := by obtain ⟨m, hm⟩ := k0; exact DataW.trod_lt m _ _ _ hm
  obtain ⟨a0, rfl, rfl, rfl, w0⟩ := open_int Try.underlying3 (hval 0 3 v0 rfl rfl) h0
  have k1 := h1
  have lt1 : ∀ x ∈ p1, x.block < W.heap.size := by obtain ⟨m, hm⟩ := k1; exact DataW.trod_lt m _ _ _ hm
  obtain ⟨b10, b11, y10, y11, m1, rfl, rfl, rfl, g10, g11⟩ := open_agg2 Try.underlying25 (by kernel_rfl) (by kernel_rfl) (hval 1 25 v1 rfl rfl) h1
  obtain ⟨A10, n10, c10, z10, e10, w10⟩ : ∃ (A : Option Addr) (n c : Nat) (zs : List Int), b10 = .slice A n c ∧ RdI W A n zs ∧ n ≤ c ∧ c ≤ maxLen ∧ ∀ z ∈ zs, (Lit.int .i64 z).wf = true := by
    rcases open_ints Try.underlying23 Try.underlying3 (by kernel_rfl) g10 with ⟨hcs, _⟩ | ⟨x, l, c, zs, hcs, _, hl, hm, hz, _, hcell, hwz⟩
    · simp at hcs
      exact ⟨none, 0, 0, [], hcs, Rd.none_ _ _, Nat.le_refl _, Nat.zero_le _, by simp⟩
    · simp at hcs
      exact ⟨some x, l, c, _, hcs, rdI_of_cells hl (by simpa using hz) hcell, hl, hm, fun z hz' => hwz z (List.mem_of_mem_take hz')⟩
  subst e10
  obtain ⟨A11, n11, c11, z11, e11, w11⟩ : ∃ (A : Option Addr) (n c : Nat) (zs : List Int), b11 = .slice A n c ∧ RdI W A n zs ∧ n ≤ c ∧ c ≤ maxLen ∧ ∀ z ∈ zs, (Lit.int .i64 z).wf = true := by
    rcases open_ints Try.underlying23 Try.underlying3 (by kernel_rfl) g11 with ⟨hcs, _⟩ | ⟨x, l, c, zs, hcs, _, hl, hm, hz, _, hcell, hwz⟩
    · simp at hcs
      exact ⟨none, 0, 0, [], hcs, Rd.none_ _ _, Nat.le_refl _, Nat.zero_le _, by simp⟩
    · simp at hcs
      exact ⟨some x, l, c, _, hcs, rdI_of_cells hl (by simpa using hz) hcell, hl, hm, fun z hz' => hwz z (List.mem_of_mem_take hz')⟩
  subst e11
  have k2 := h2
  have lt2 : ∀ x ∈ p2, x.block < W.heap.size := by obtain ⟨m, hm⟩ := k2; exact DataW.trod_lt m _ _ _ hm
  obtain ⟨b20, b21, y20, y21, m2, rfl, rfl, rfl, g20, g21⟩ := open_agg2 Try.underlying25 (by kernel_rfl) (by kernel_rfl) (hval 2 25 v2 rfl rfl) h2
  obtain ⟨A20, n20, c20, z20, e20, w20⟩ : ∃ (A : Option Addr) (n c : Nat) (zs : List Int), b20 = .slice A n c ∧ RdI W A n zs ∧ n ≤ c ∧ c ≤ maxLen ∧ ∀ z ∈ zs, (Lit.int .i64 z).wf = true := by
    rcases open_ints Try.underlying23 Try.underlying3 (by kernel_rfl) g20 with ⟨hcs, _⟩ | ⟨x, l, c, zs, hcs, _, hl, hm, hz, _, hcell, hwz⟩
    · simp at hcs
      exact ⟨none, 0, 0, [], hcs, Rd.none_ _ _, Nat.le_refl _, Nat.zero_le _, by simp⟩
    · simp at hcs
      exact ⟨some x, l, c, _, hcs, rdI_of_cells hl (by simpa using hz) hcell, hl, hm, fun z hz' => hwz z (List.mem_of_mem_take hz')⟩
  subst e20
  obtain ⟨A21, n21, c21, z21, e21, w21⟩ : ∃ (A : Option Addr) (n c : Nat) (zs : List Int), b21 = .slice A n c ∧ RdI W A n zs ∧ n ≤ c ∧ c ≤ maxLen ∧ ∀ z ∈ zs, (Lit.int .i64 z).wf = true := by
    rcases open_ints Try.underlying23 Try.underlying3 (by kernel_rfl) g21 with ⟨hcs, _⟩ | ⟨x, l, c, zs, hcs, _, hl, hm, hz, _, hcell, hwz⟩
    · simp at hcs
      exact ⟨none, 0, 0, [], hcs, Rd.none_ _ _, Nat.le_refl _, Nat.zero_le _, by simp⟩
    · simp at hcs
      exact ⟨some x, l, c, _, hcs, rdI_of_cells hl (by simpa using hz) hcell, hl, hm, fun z hz' => hwz z (List.mem_of_mem_take hz')⟩
  subst e21
  clear hA0 hval0
  refine (FnExactPathClash_walk W a0 w0 A10 n10 c10 z10 w10.1 w10.2.1 w10.2.2.1 w10.2.2.2 A11 n11 c11 z11 w11.1 w11.2.1 w11.2.2.1 w11.2.2.2 A20 n20 c20 z20 w20.1 w20.2.1 w20.2.2.1 w20.2.2.2 A21 n21 c21 z21 w21.1 w21.2.1 w21.2.2.1 w21.2.2.2).mono fun e W' ⟨he, bel⟩ => ?_
  subst he
  exact ⟨_, rfl, _, _, _, [], _, [], hW', trodAll_mk1 (shut_bool Try.underlying4 _), (trodAll_cons_mk (Below.trod laidOut (by kernel_rfl) (of_decide_eq_true (by kernel_rfl)) k0 bel lt0) (trodAll_cons_mk (Below.trod laidOut (by kernel_rfl) (of_decide_eq_true (by kernel_rfl)) k1 bel lt1) (trodAll_cons_mk (Below.trod laidOut (by kernel_rfl) (of_decide_eq_true (by kernel_rfl)) k2 bel lt2) trodAll_mk0))), rfl, bel.frame _, fun h => by cases h⟩

theorem over : Rows.fnExactPathClashRow.holds Try.pinned (OpenSpec.ofChange Rows.fnExactPathClashSpec) :=
  OpenClaim.holds_of_wide 6 Try.f6 rfl rfl rfl rfl rfl rfl rfl ⟨rfl, rfl, rfl, rfl, rfl⟩ rfl rfl rfl rfl rfl (by kernel_rfl) Try.func6 (by kernel_rfl)
    (of_decide_eq_true (by kernel_rfl)) (by unfold Func.isWrapper; first | (rw [if_pos (by decide +kernel)]; kernel_rfl) | (rw [if_neg (by decide +kernel)]; exact ⟨rfl, rfl⟩))
    (fun os started H enc _ => lifted os started H enc)

/-- THE STATEMENT. -/
theorem proved : Rows.FnExactPathClashSaid := over
#print axioms proved
end Go.Proofs.Ytpfgjkgjeejghaa.fnExactPathClash
