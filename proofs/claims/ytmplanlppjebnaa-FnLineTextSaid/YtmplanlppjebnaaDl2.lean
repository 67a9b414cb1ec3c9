/-
  Contracts of the reference's l4At and LineValid: what they ask of a line that reads as blocks and trains.
  Conditions: at most five blocks and five trains.
-/
import Derived.Test.YtmplanlppjebnaaDl1
import Derived.Test.YtmplanlppjebnaaLn1
import Derived.BigQuiet
namespace Go.Proofs.Ytmplanlppjebnaa
open Go.RowKit
set_option linter.unusedVariables false
set_option linter.unusedSimpArgs false
attribute [local go_sem ↓] Go.wp_at_zero Go.wp_at_succ

/-- The slice value '.slice A n c' holds the blocks xs. -/
def RdW (w : World) (A : Option Addr) (n : Nat) (xs : List B3) : Prop :=
  xs.length = n ∧ (0 < n → ∃ b off, A = some ⟨b, off, none⟩ ∧ ∀ (k : Nat) (p : B3), xs[k]? = some p → w.cell? ⟨b, off + k * 3, none⟩ = some (.int .i64 p.1) ∧ w.cell? ⟨b, off + k * 3 + 1, none⟩ = some (.bool p.2.1) ∧ w.cell? ⟨b, off + k * 3 + 2, none⟩ = some (.bool p.2.2))
section
variable {w w' : World} {n : Nat} {A : Option Addr} {xs : List B3}
theorem RdW.len (h : RdW w A n xs) : xs.length = n := h.1
theorem RdW.none_ (w : World) (A : Option Addr) : RdW w A 0 [] := ⟨rfl, fun h => absurd h (by omega)⟩
theorem RdW.at_ {k : Nat} (h : RdW w A n xs) (hk : k < n) : ∃ b off p, A = some ⟨b, off, none⟩ ∧ xs[k]? = some p ∧ w.cell? ⟨b, off + k * 3, none⟩ = some (.int .i64 p.1) ∧ w.cell? ⟨b, off + k * 3 + 1, none⟩ = some (.bool p.2.1) ∧ w.cell? ⟨b, off + k * 3 + 2, none⟩ = some (.bool p.2.2) := by
  obtain ⟨b, off, e, hc⟩ := h.2 (by omega)
  have hl : k < xs.length := by have := h.1; omega
  exact ⟨b, off, xs[k], e, List.getElem?_eq_getElem hl, hc k _ (List.getElem?_eq_getElem hl)⟩
theorem RdW.keep (h : RdW w A n xs) (hk : ∀ b off j u, 0 < n → A = some ⟨b, off, none⟩ → w.cell? ⟨b, j, none⟩ = some u → w'.cell? ⟨b, j, none⟩ = some u) : RdW w' A n xs :=
  ⟨h.1, fun hn => by
    obtain ⟨b, off, e, hc⟩ := h.2 hn
    exact ⟨b, off, e, fun k p hp => ⟨hk _ _ _ _ hn e (hc k p hp).1, hk _ _ _ _ hn e (hc k p hp).2.1, hk _ _ _ _ hn e (hc k p hp).2.2⟩⟩⟩
theorem RdW.below (h : RdW w A n xs) (hb : Below w.heap.size w w') : RdW w' A n xs :=
  h.keep fun _ _ _ _ _ _ hp => (hb.cell (block_lt_of_cell hp)).trans hp
theorem RdW.of_own {base : Nat} {e : TypeId} {c : Nat} (h : w.ownsRow base e 3 (.slice A n c) n (flat3 xs)) : RdW w A n xs := by
  have hl : xs.length = n := by have := h.1; rw [flat3_len] at this; omega
  refine ⟨hl, fun hn => ?_⟩
  have hform : ∃ g, A = some ⟨g, 0, none⟩ := by
    rcases h.2 with ⟨h', h0⟩ | ⟨g, cap, cur, h', _⟩
    · omega
    · simp only [Value.slice.injEq] at h'
      exact ⟨g, h'.1⟩
  obtain ⟨g, rfl⟩ := hform
  refine ⟨g, 0, rfl, fun k p hp => ?_⟩
  have hk : k < xs.length := (List.getElem?_eq_some_iff.1 hp).1
  rw [Nat.zero_add, h.cellAt (k * 3) (by omega), h.cellAt (k * 3 + 1) (by omega), h.cellAt (k * 3 + 2) (by omega)]
  exact flat3_at hp
end
/-- A line as a value. -/
abbrev liv (A : Option Addr) (n c : Nat) (B : Option Addr) (m d : Nat) : Value := .agg #[.slice A n c, .slice B m d]
/-- Two cells of a block. -/
structure RmL (W : World) (b : Nat) (u v : Value) : Prop where
  c0 : W.cell? ⟨b, 0, none⟩ = some u
  c1 : W.cell? ⟨b, 1, none⟩ = some v
theorem RmL.below {W W' : World} {b : Nat} {u v : Value} (r : RmL W b u v) (hb : Below W.heap.size W W') : RmL W' b u v := ⟨(hb.cell (block_lt_of_cell r.c0)).trans r.c0, (hb.cell (block_lt_of_cell r.c1)).trans r.c1⟩
theorem RmL.new (W : World) (u v : Value) (t : TypeId) : RmL (W.alloc (.cells #[u, v] t)) W.heap.size u v := by constructor <;> simp [go_sem]
theorem l6In_yesQ (n lo hi : Int) (w : World) (h1 : lo ≤ n) (h2 : n ≤ hi) :
    Calls Try.prog 36 #[.int .i64 n, .int .i64 lo, .int .i64 hi] w fun e w' => e = .returned (.bool true) ∧ w' = w := (l6In_yes n lo hi w h1 h2).mono fun _ _ ⟨h, k⟩ => ⟨h, k.symm⟩
theorem l6In_noQ (n lo hi : Int) (w : World) (h : n < lo ∨ hi < n) :
    Calls Try.prog 36 #[.int .i64 n, .int .i64 lo, .int .i64 hi] w fun e w' => e = .returned (.bool false) ∧ w' = w := (l6In_no n lo hi w h).mono fun _ _ ⟨h, k⟩ => ⟨h, k.symm⟩

set_option maxHeartbeats 2000000 in
theorem l4At_any (A : Option Addr) (n c : Nat) (B : Option Addr) (m d : Nat) (zs : List Int) (P : Int) (w : World) (hz : RdI w B m zs) (hm : m ≤ 5) :
    Calls Try.prog 58 #[liv A n c B m d, .int .i64 P] w fun e w' => ∃ r : Int, e = .returned (.int .i64 r) ∧ (r < 0 ∨ ∃ k : Nat, r = k ∧ k < m) ∧ Below w.heap.size w w' := by
  have HB0 : Hid (Below w.heap.size w (w.alloc (.cells #[.slice A n c, .slice B m d] 38))) := (Below.refl w.heap.size w).alloc (Nat.le_refl _) _
  have HZ := Lib.hid (RdI.below hz HB0.out)
  have HR0 := Lib.hid (RmL.new w (.slice A n c) (.slice B m d) 38)
  clear hz
  go_enter Try.func58, Try.ntmps58
  go_wp2_with fail
  generalize w.alloc (.cells #[.slice A n c, .slice B m d] 38) = W at HB0 HZ HR0 ⊢
  go_loopw [5] (fun i wr => ∃ k : Nat, k ≤ m ∧ i = .int .i64 k ∧ Hid (∃ s, wr = W.drewN s)) (fun i _ => m - (intOf i).toNat)
  case atStart => exact ⟨0, Nat.zero_le _, rfl, ⟨0, rfl⟩⟩
  case round =>
    obtain ⟨k, hk, rfl, HS⟩ := hrel
    have r0 : wr.cell? ⟨w.heap.size, 0, none⟩ = some (.slice A n c) := by obtain ⟨s, rfl⟩ := HS.out; exact HR0.out.1
    have r1 : wr.cell? ⟨w.heap.size, 1, none⟩ = some (.slice B m d) := by obtain ⟨s, rfl⟩ := HS.out; exact HR0.out.2
    have HBr : Hid (Below w.heap.size w wr) := by obtain ⟨s, rfl⟩ := HS.out; exact below_drewN HB0.out _
    by_cases hlt : k < m
    · obtain ⟨b, off, z, rfl, hzk, hcz'⟩ := HZ.out.at_ hlt
      have hcz : wr.cell? ⟨b, off + k, none⟩ = some (.int .i64 z) := by obtain ⟨s, rfl⟩ := HS.out; exact hcz'
      clear hcz' hzk
      by_cases he : z = P
      · have hq : (z == P) = true := by simpa using he
        clear he
        go_wp2_with fail
        go_ret
        exact ⟨(k : Int), rfl, .inr ⟨k, rfl, hlt⟩, HBr.out⟩
      · have hq : (z == P) = false := by simpa using he
        clear he
        go_wp2_with fail
        go_roundw
        case rel => exact ⟨k + 1, by omega, by go_num, by obtain ⟨s, rfl⟩ := HS.out; first | exact ⟨_, rfl⟩ | exact ex_drew _ _ _⟩
        case measure => simp [intOf]; omega
    · go_wp2_with fail
      go_ret
      exact ⟨-1, rfl, .inl (by omega), HBr.out⟩
end Go.Proofs.Ytmplanlppjebnaa
