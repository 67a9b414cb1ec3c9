/-
  Contract of l91Book: what is drawn is some list of at most six lists of at most six numbers.
  Conditions: fewer than 900000 numbers have been drawn.
-/
import Derived.Test.YtpfgjkgjeejghaaDrawCode
import Derived.Test.YtpfgjkgjeejghaaBooks3
import Derived.Test.YtpfgjkgjeejghaaSteps
import Derived.Maps.AppendAt
import Derived.Deep.RegionHeld3
import Derived.Deep.RegionLaw
import Derived.Deep.RegionHeldLaw
import Derived.Deep.AppendLies
import Derived.Deep.CutRange
import Derived.Shelf.Abstract
namespace Go.Proofs.Ytpfgjkgjeejghaa
open Go.RowKit
set_option linter.unusedVariables false
attribute [local go_sem ↓] Go.wp_at_zero Go.wp_at_succ

/-- A book that is being drawn: an outer row of the call's own, inner rows in other new blocks. -/
structure BookM (w : World) (B : Nat) (v : Value) (n : Nat) (rs : List Value) (zss : List (List Int)) : Prop where
  out : w.ownsRow B 23 1 v n rs
  inn : ∀ (k : Nat) r, rs[k]? = some r → ∃ A' n' c' zs, r = .slice A' n' c' ∧ zss[k]? = some zs ∧ w.ownsRow B 3 1 r n' (zs.map (Value.int .i64)) ∧ n' ≤ 6
  ap : ∀ (k : Nat) r g, rs[k]? = some r → r.ownBlock = some g → v.ownBlock ≠ some g
  len : zss.length = n
section
variable {w w' : World} {B n : Nat} {v : Value} {rs : List Value} {zss : List (List Int)}
theorem BookM.below (h : BookM w B v n rs zss) (hb : Below w.heap.size w w') : BookM w' B v n rs zss :=
  ⟨own_belowAll h.out hb, fun k r hr => by
    obtain ⟨A', n', c', zs, e, hz, ho, h6⟩ := h.inn k r hr
    exact ⟨A', n', c', zs, e, hz, own_belowAll ho hb, h6⟩, h.ap, h.len⟩
theorem BookM.grown {row : Option Nat} (h : BookM w B v n rs zss) (hg : w.grownBy w' row) (hr : ∀ g, row = some g → g < B) : BookM w' B v n rs zss := by
  have H : ∀ {t : TypeId} {u : Value} {m : Nat} {xs : List Value}, w.ownsRow B t 1 u m xs → w'.ownsRow B t 1 u m xs := fun ho =>
    own_kept ho hg fun g r h1 h2 => by have := hr r h2; have := (ho.lt g h1).1; omega
  exact ⟨H h.out, fun k r hk => by
    obtain ⟨A', n', c', zs, e, hz, ho, h6⟩ := h.inn k r hk
    exact ⟨A', n', c', zs, e, hz, H ho, h6⟩, h.ap, h.len⟩
theorem BookM.al (h : BookM w B v n rs zss) (o : Obj) : BookM (w.alloc o) B v n rs zss := h.below ((Below.refl _ _).alloc (Nat.le_refl _) o)
theorem BookM.dr (h : BookM w B v n rs zss) : BookM w.drew B v n rs zss := h.below (below_of_drewN _ _ 1)
theorem BookM.rlen (h : BookM w B v n rs zss) : rs.length = n := by have := h.out.1; omega
theorem BookM.rd {A : Option Addr} {c : Nat} (h : BookM w B (.slice A n c) n rs zss) : RdM w A n zss := by
  have hro := Rd.of_own h.out
  refine ⟨h.len, fun h0 => ?_⟩
  obtain ⟨b, off, e, hc⟩ := hro.2 h0
  refine ⟨b, off, e, fun k zs hk => ?_⟩
  have hkn : k < rs.length := by
    have h1 := hro.1
    have h2 := (List.getElem?_eq_some_iff.1 hk).1
    have := h.len
    omega
  have hr := List.getElem?_eq_getElem hkn
  obtain ⟨A', n', c', us, e', hz, ho, h6⟩ := h.inn k _ hr
  rw [hk] at hz
  cases hz
  have e2 := e'
  rw [e'] at ho
  obtain ⟨A2, c2, e3, l1, l2, _⟩ := own_form ho
  simp only [Value.slice.injEq] at e3
  obtain ⟨rfl, _, rfl⟩ := e3
  exact ⟨A', n', c', by rw [← e']; exact hc k _ hr, RdI.of_own ho, l1, l2⟩
theorem BookM.tot (h : BookM w B v n rs zss) : ∀ zs ∈ zss, zs.length ≤ 6 := by
  intro zs hz
  obtain ⟨k, hk⟩ := List.mem_iff_getElem?.1 hz
  have hkn : k < rs.length := by have := (List.getElem?_eq_some_iff.1 hk).1; have := h.len; have := h.rlen; omega
  obtain ⟨A', n', c', us, e', hz', ho, h6⟩ := h.inn k _ (List.getElem?_eq_getElem hkn)
  rw [hk] at hz'
  cases hz'
  have := ho.1
  simp at this
  omega
/-- A row is put behind. -/
theorem BookM.push {v' r : Value} {m : Nat} {zs : List Int} {A' : Option Addr} {c' : Nat} (h : BookM w B v n rs zss) (hn : w'.ownsRow B 23 1 v' (n + 1) (rs ++ [r])) (hg : w.grownBy w' v.ownBlock)
    (hv : v'.ownBlock = v.ownBlock ∨ v'.ownBlock = some w.heap.size ∨ v'.ownBlock = some (w.heap.size + 1)) (e : r = .slice A' m c') (hr : w.ownsRow B 3 1 r m (zs.map (Value.int .i64))) (h6 : m ≤ 6) (hap : ∀ g, r.ownBlock = some g → v.ownBlock ≠ some g) :
    BookM w' B v' (n + 1) (rs ++ [r]) (zss ++ [zs]) := by
  have keep : ∀ {u : Value} {k : Nat} {xs : List Value}, w.ownsRow B 3 1 u k xs → (∀ g, u.ownBlock = some g → v.ownBlock ≠ some g) → w'.ownsRow B 3 1 u k xs := fun ho hne =>
    own_kept ho hg fun g r' h1 h2 he => hne g h1 (by rw [he, h2])
  have lt : ∀ {u : Value} {k : Nat} {xs : List Value}, w.ownsRow B 3 1 u k xs → (∀ g, u.ownBlock = some g → v.ownBlock ≠ some g) → ∀ g, u.ownBlock = some g → v'.ownBlock ≠ some g := fun ho hne g hgu he => by
    have hlt := (ho.lt g hgu).2
    rcases hv with h1 | h1 | h1
    · exact hne g hgu (by rw [← h1, he])
    · rw [h1] at he; cases he; omega
    · rw [h1] at he; cases he; omega
  refine ⟨hn, fun k s hs => ?_, fun k s g hs hgs => ?_, by rw [List.length_append, h.len]; rfl⟩
  · by_cases hk : k < n
    · rw [List.getElem?_append_left (by rw [h.rlen]; exact hk)] at hs
      obtain ⟨A2, n2, c2, us, e2, hz2, ho2, h62⟩ := h.inn k s hs
      exact ⟨A2, n2, c2, us, e2, by rw [List.getElem?_append_left (by rw [h.len]; exact hk)]; exact hz2, keep ho2 (fun g => h.ap k s g hs), h62⟩
    · rw [List.getElem?_append_right (by rw [h.rlen]; omega)] at hs
      have hk0 : k - rs.length = 0 := by
        have := (List.getElem?_eq_some_iff.1 hs).1
        simpa using this
      rw [hk0] at hs
      simp at hs
      subst hs
      refine ⟨A', m, c', zs, e, ?_, keep hr hap, h6⟩
      rw [List.getElem?_append_right (by rw [h.len]; omega)]
      have : k - zss.length = 0 := by have := h.len; have := h.rlen; omega
      rw [this]; rfl
  · by_cases hk : k < n
    · rw [List.getElem?_append_left (by rw [h.rlen]; exact hk)] at hs
      obtain ⟨A2, n2, c2, us, e2, hz2, ho2, h62⟩ := h.inn k s hs
      exact lt ho2 (fun g => h.ap k s g hs) g hgs
    · rw [List.getElem?_append_right (by rw [h.rlen]; omega)] at hs
      have hk0 : k - rs.length = 0 := by
        have := (List.getElem?_eq_some_iff.1 hs).1
        simpa using this
      rw [hk0] at hs
      simp at hs
      subst hs
      exact lt hr hap g hgs
end
theorem tot_six {zss : List (List Int)} (h : ∀ zs ∈ zss, zs.length ≤ 6) : tot zss ≤ 6 * zss.length := by
  induction zss with
  | nil => simp [tot]
  | cons z zs ih =>
    have h1 := h z (by simp)
    have h2 := ih (fun y hy => h y (by simp [hy]))
    unfold tot at *
    simp only [List.map_cons, List.sum_cons, List.length_cons]
    omega
/-- A book in new memory, as it is read. -/
structure BookR (w : World) (B : Nat) (v : Value) (n : Nat) (zss : List (List Int)) : Prop where
  own : ∃ rs, w.ownsRow B 23 1 v n rs ∧ ∀ (k : Nat) r, rs[k]? = some r → ∃ A' n' c' zs, r = .slice A' n' c' ∧ zss[k]? = some zs ∧ RdI w A' n' zs ∧ n' ≤ c' ∧ c' ≤ maxLen ∧ n' ≤ 6 ∧ (0 < n' → ∀ a, A' = some a → B ≤ a.block)
  len : zss.length = n
theorem BookM.toR {w : World} {B n : Nat} {v : Value} {rs : List Value} {zss : List (List Int)} (h : BookM w B v n rs zss) : BookR w B v n zss := by
  refine ⟨⟨rs, h.out, fun k r hk => ?_⟩, h.len⟩
  obtain ⟨A', n', c', zs, rfl, hz, ho, h6⟩ := h.inn k r hk
  obtain ⟨A2, c2, e3, l1, l2, l3⟩ := own_form ho
  simp only [Value.slice.injEq] at e3
  obtain ⟨rfl, _, rfl⟩ := e3
  exact ⟨A', n', c', zs, rfl, hz, RdI.of_own ho, l1, l2, h6, fun _ a e => (l3 a.block (by rw [e]; rfl)).1⟩
theorem BookM.pushR {W w5 : World} {B n m : Nat} {v v' : Value} {rs : List Value} {zss : List (List Int)} {A' : Option Addr} {c' : Nat} {zs : List Int} (h : BookM W B v n rs zss) (hn : w5.ownsRow B 23 1 v' (n + 1) (rs ++ [.slice A' m c'])) (hg : W.grownBy w5 v.ownBlock)
    (hr : RdI W A' m zs) (h1 : m ≤ c') (h2 : c' ≤ maxLen) (h6 : m ≤ 6) (hap : 0 < m → ∀ a, A' = some a → v.ownBlock ≠ some a.block ∧ B ≤ a.block) : BookR w5 B v' (n + 1) (zss ++ [zs]) := by
  have hR := h.toR
  refine ⟨⟨_, hn, fun k s hs => ?_⟩, by rw [List.length_append, h.len]; rfl⟩
  by_cases hk : k < n
  · rw [List.getElem?_append_left (by rw [h.rlen]; exact hk)] at hs
    obtain ⟨A2, n2, c2, us, rfl, hz2, ho2, h62⟩ := h.inn k s hs
    have hap2 := fun (g : Nat) (e : (Value.slice A2 n2 c2).ownBlock = some g) => h.ap k _ g hs e
    obtain ⟨A3, c3, e3, l1, l2, l3⟩ := own_form ho2
    simp only [Value.slice.injEq] at e3
    obtain ⟨rfl, _, rfl⟩ := e3
    exact ⟨A2, n2, c2, us, rfl, by rw [List.getElem?_append_left (by rw [h.len]; exact hk)]; exact hz2, Rd.grown (RdI.of_own ho2) hg (fun _ a e e2 => hap2 a.block (by rw [e]; rfl) e2.symm), l1, l2, h62, fun _ a e => (l3 a.block (by rw [e]; rfl)).1⟩
  · rw [List.getElem?_append_right (by rw [h.rlen]; omega)] at hs
    have hk0 : k - rs.length = 0 := by
      have := (List.getElem?_eq_some_iff.1 hs).1
      simpa using this
    rw [hk0] at hs
    simp at hs
    subst hs
    refine ⟨A', m, c', zs, rfl, ?_, Rd.grown hr hg (fun h0 a e e2 => (hap h0 a e).1 e2.symm), h1, h2, h6, fun h0 a e => (hap h0 a e).2⟩
    rw [List.getElem?_append_right (by rw [h.len]; omega)]
    have : k - zss.length = 0 := by have := h.len; have := h.rlen; omega
    rw [this]; rfl
section
variable {w w' : World} {B n : Nat} {v : Value} {zss : List (List Int)}
theorem BookR.rd {A : Option Addr} {c : Nat} (h : BookR w B (.slice A n c) n zss) : RdM w A n zss := by
  obtain ⟨rs, ho, hi⟩ := h.own
  have hro := Rd.of_own ho
  refine ⟨h.len, fun h0 => ?_⟩
  obtain ⟨b, off, e, hc⟩ := hro.2 h0
  refine ⟨b, off, e, fun k zs hk => ?_⟩
  have hkn : k < rs.length := by
    have h1 := hro.1
    have h2 := (List.getElem?_eq_some_iff.1 hk).1
    have := h.len
    omega
  have hr := List.getElem?_eq_getElem hkn
  obtain ⟨A', n', c', us, e', hz, h1, h2, h3, _⟩ := hi k _ hr
  rw [hk] at hz
  cases hz
  exact ⟨A', n', c', by rw [← e']; exact hc k _ hr, h1, h2, h3⟩
theorem BookR.below (h : BookR w B v n zss) (hb : Below w.heap.size w w') : BookR w' B v n zss := by
  obtain ⟨⟨rs, ho, hi⟩, hl⟩ := h
  refine ⟨⟨rs, own_belowAll ho hb, fun k r hk => ?_⟩, hl⟩
  obtain ⟨A', n', c', us, e', hz, h1, h2⟩ := hi k r hk
  exact ⟨A', n', c', us, e', hz, RdI.below h1 hb, h2⟩
theorem BookR.grown {row : Option Nat} (h : BookR w B v n zss) (hg : w.grownBy w' row) (hr : ∀ g, row = some g → g < B) : BookR w' B v n zss := by
  obtain ⟨⟨rs, ho, hi⟩, hl⟩ := h
  refine ⟨⟨rs, own_kept ho hg (fun g r h1 h2 => by have := hr r h2; have := (ho.lt g h1).1; omega), fun k r hk => ?_⟩, hl⟩
  obtain ⟨A', n', c', us, e', hz, h1, h2, h3, h6, h4⟩ := hi k r hk
  exact ⟨A', n', c', us, e', hz, Rd.grown h1 hg (fun h0 a e e2 => by have := h4 h0 a e; have := hr _ e2.symm; omega), h2, h3, h6, h4⟩
theorem BookR.base {B' : Nat} (h : BookR w B v n zss) (hb : B' ≤ B) : BookR w B' v n zss := by
  obtain ⟨⟨rs, ho, hi⟩, hl⟩ := h
  refine ⟨⟨rs, own_base ho hb, fun k r hk => ?_⟩, hl⟩
  obtain ⟨A', n', c', us, e', hz, h1, h2, h3, h6, h4⟩ := hi k r hk
  exact ⟨A', n', c', us, e', hz, h1, h2, h3, h6, fun h0 a e => Nat.le_trans hb (h4 h0 a e)⟩
theorem BookR.tot (h : BookR w B v n zss) : ∀ zs ∈ zss, zs.length ≤ 6 := by
  obtain ⟨⟨rs, ho, hi⟩, hl⟩ := h
  intro zs hz
  obtain ⟨k, hk⟩ := List.mem_iff_getElem?.1 hz
  have hrl : rs.length = n := by have := ho.1; omega
  have hkn : k < rs.length := by have := (List.getElem?_eq_some_iff.1 hk).1; omega
  obtain ⟨A', n', c', us, e', hz', h1, _, _, h6, _⟩ := hi k _ (List.getElem?_eq_getElem hkn)
  rw [hk] at hz'
  cases hz'
  have := RdI.len h1
  omega
end
/-- A book that was drawn. -/
def DrewBook (L g p K : Nat) (w : World) (e : Ending) (w' : World) : Prop :=
  ∃ A n c zss p', e = .returned (.slice A n c) ∧ BookR w' w.heap.size (.slice A n c) n zss ∧ n ≤ 7 ∧ p' ≤ p + K ∧ Src w' L g p' ∧ w.grownBy w' (some g)
theorem Try.infoRows : (Try.prog.info? 23).map (fun i => (i.zero, i.size, i.bytes)) = some (some (.slice none 0 0), 1, 24) := by kernel_rfl
def p3 {α : Type} (k : Nat) (a b c : α) : α := if k = 0 then a else if k = 1 then b else c
/-- The block of three slices. -/
abbrev lit3 (A A' A'' : Option Addr) (n n' n'' c c' c'' : Nat) : Obj := .cells #[.slice A n c, .slice A' n' c', .slice A'' n'' c''] 23
abbrev row3 (k : Nat) (A A' A'' : Option Addr) (n n' n'' c c' c'' : Nat) : Value := .slice (p3 k A A' A'') (p3 k n n' n'') (p3 k c c' c'')
theorem Src.drew1 {w : World} {L g p : Nat} (h : Src w L g p) : Src w.drew L g p := h
theorem lit3_cell (W : World) (k : Nat) (A A' A'' : Option Addr) (n n' n'' c c' c'' : Nat) (hk : k < 3) : (W.alloc (lit3 A A' A'' n n' n'' c c' c'')).cell? ⟨W.heap.size, k, none⟩ = some (row3 k A A' A'' n n' n'' c c' c'') := by
  have : k = 0 ∨ k = 1 ∨ k = 2 := by omega
  rcases this with rfl | rfl | rfl <;> simp [p3]
theorem lit3_after {W w3 : World} {g k : Nat} {A A' A'' : Option Addr} {n n' n'' c c' c'' : Nat} (hg : (W.alloc (lit3 A A' A'' n n' n'' c c' c'')).drew.grownBy w3 (some g)) (hne : g < W.heap.size) (hk : k < 3) : w3.cell? ⟨W.heap.size, k, none⟩ = some (row3 k A A' A'' n n' n'' c c' c'') :=
  hg.cell (a := ⟨W.heap.size, k, none⟩) (lit3_cell W k A A' A'' n n' n'' c c' c'' hk) (fun e => by have h2 : W.heap.size = g := Option.some.inj e; omega)
set_option maxHeartbeats 1000000 in
theorem pick3_any (L g p b0 : Nat) (u0 : Value) (W : World) (hs : Src W L g p) (hp : p ≤ 1000000) (hc : W.cell? ⟨b0, 0, none⟩ = some u0) (hne : some b0 ≠ some g) :
    Calls Try.prog 69 #[.pointer (some ⟨g, 0, none⟩), .int .i64 3] W fun e w3 => ∃ v, e = .returned v ∧ ∃ un : Nat, (un < 3 ∧ (0 : Int) ≤ (un : Int) ∧ (un : Int) < 3) ∧ v = .int .i64 un ∧ Hid (Src w3 L g (p + 1)) ∧ Hid (W.grownBy w3 (some g)) ∧
      (∀ A A' A'' n n' n'' c c' c'', (w3.alloc (lit3 A A' A'' n n' n'' c c' c'')).cell? ⟨w3.heap.size, un, none⟩ = some (row3 un A A' A'' n n' n'' c c' c'')) ∧
      (∀ o A A' A'' n n' n'' c c' c'', ((w3.alloc o).alloc (lit3 A A' A'' n n' n'' c c' c'')).cell? ⟨w3.heap.size + 1, un, none⟩ = some (row3 un A A' A'' n n' n'' c c' c'')) ∧
      (∀ o o' A A' A'' n n' n'' c c' c'', (((w3.alloc o).alloc o').alloc (lit3 A A' A'' n n' n'' c c' c'')).cell? ⟨w3.heap.size + 1 + 1, un, none⟩ = some (row3 un A A' A'' n n' n'' c c' c'')) ∧ w3.cell? ⟨b0, 0, none⟩ = some u0 ∧
      Hid (∀ o, (w3.alloc o).cell? ⟨b0, 0, none⟩ = some u0) ∧ Hid (∀ o o', ((w3.alloc o).alloc o').cell? ⟨b0, 0, none⟩ = some u0) ∧ Hid (∀ o o' o'', (((w3.alloc o).alloc o').alloc o'').cell? ⟨b0, 0, none⟩ = some u0) ∧ Hid (∀ o o' o'' o3, ((((w3.alloc o).alloc o').alloc o'').alloc o3).cell? ⟨b0, 0, none⟩ = some u0) := by
  refine (pick_any L g p 3 W hs hp (by omega)).mono ?_
  rintro e w3 ⟨u, rfl, hu, _, hs3, hg3⟩
  obtain ⟨un, hun, rfl⟩ : ∃ un : Nat, un < 3 ∧ u = (un : Int) := ⟨u.toNat, by have := hu (by omega); omega, by have := hu (by omega); omega⟩
  have hal : ∀ (W : World) (u : Value) (o : Obj), W.cell? ⟨b0, 0, none⟩ = some u → (W.alloc o).cell? ⟨b0, 0, none⟩ = some u := fun W u o h => (World.cell?_alloc_lt _ _ _ (block_lt_of_cell h)).trans h
  have hc3 : w3.cell? ⟨b0, 0, none⟩ = some u0 := hg3.cell (a := ⟨b0, 0, none⟩) hc hne
  exact ⟨_, rfl, un, ⟨hun, by omega, by omega⟩, rfl, hs3, hg3, fun A A' A'' n n' n'' c c' c'' => lit3_cell w3 un A A' A'' n n' n'' c c' c'' hun, fun o A A' A'' n n' n'' c c' c'' => by have := lit3_cell (w3.alloc o) un A A' A'' n n' n'' c c' c'' hun; rw [World.size_alloc] at this; exact this,
    fun o o' A A' A'' n n' n'' c c' c'' => by have := lit3_cell ((w3.alloc o).alloc o') un A A' A'' n n' n'' c c' c'' hun; rw [World.size_alloc, World.size_alloc] at this; exact this,
    hc3, fun o => hal _ _ o hc3, fun o o' => hal _ _ o' (hal _ _ o hc3), fun o o' o'' => hal _ _ o'' (hal _ _ o' (hal _ _ o hc3)), fun o o' o'' o3 => hal _ _ o3 (hal _ _ o'' (hal _ _ o' (hal _ _ o hc3)))⟩
theorem cell_new1 (w : World) (o : Obj) (v : Value) (t : TypeId) : ∀ j u, [v][j]? = some u → ((w.alloc o).alloc (.cells #[v] t)).cell? ((⟨w.heap.size + 1, 0, none⟩ : Addr).add j) = some u := by
  have := cell_new (w.alloc o) v t; rw [World.size_alloc] at this; exact this
theorem cell_new2 (w : World) (o o' : Obj) (v : Value) (t : TypeId) : ∀ j u, [v][j]? = some u → (((w.alloc o).alloc o').alloc (.cells #[v] t)).cell? ((⟨w.heap.size + 1 + 1, 0, none⟩ : Addr).add j) = some u := by
  have := cell_new ((w.alloc o).alloc o') v t; rw [World.size_alloc, World.size_alloc] at this; exact this
theorem cell_new3 (w : World) (o o' o'' : Obj) (v : Value) (t : TypeId) : ∀ j u, [v][j]? = some u → ((((w.alloc o).alloc o').alloc o'').alloc (.cells #[v] t)).cell? ((⟨w.heap.size + 1 + 1 + 1, 0, none⟩ : Addr).add j) = some u := by
  have := cell_new (((w.alloc o).alloc o').alloc o'') v t; rw [World.size_alloc, World.size_alloc, World.size_alloc] at this; exact this
theorem al_cell {W : World} {b j : Nat} {u : Value} (h : W.cell? ⟨b, j, none⟩ = some u) (o : Obj) : (W.alloc o).cell? ⟨b, j, none⟩ = some u := (World.cell?_alloc_lt _ _ _ (block_lt_of_cell h)).trans h
theorem cell7_0 (W : World) : (W.alloc (.cells #[.int .i64 7] 3)).cell? ⟨W.heap.size, 0, none⟩ = some (.int .i64 7) := by simp
theorem cell7_1 (W : World) (o : Obj) : ((W.alloc o).alloc (.cells #[.int .i64 7] 3)).cell? ⟨W.heap.size + 1, 0, none⟩ = some (.int .i64 7) := by
  have := cell7_0 (W.alloc o); rw [World.size_alloc] at this; exact this
theorem fin_row {W w5 : World} {B b0 n c2 g5 cap5 un x39 n6 c6 : Nat} {rs : List Value} {zss : List (List Int)} {A38 A6 : Option Addr} {z6 : List Int} (hW : BookM W B (.slice (some ⟨b0, 0, none⟩) n c2) n rs zss)
    (ho : w5.ownsRow B 23 1 (.slice (some ⟨g5, 0, none⟩) (n + 1) cap5) (n + 1) (rs ++ [row3 un A38 (some ⟨x39, 0, none⟩) A6 0 1 n6 0 1 c6])) (hg : W.grownBy w5 (some b0)) (hr0 : rs[0]? = some (.slice A6 n6 c6)) (hun : un < 3)
    (h7 : W.cell? ⟨x39, 0, none⟩ = some (.int .i64 7)) (hx : B ≤ x39) (hx2 : x39 ≠ b0) (hz : zss[0]? = some z6) : BookR w5 B (.slice (some ⟨g5, 0, none⟩) (n + 1) cap5) (n + 1) (zss ++ [p3 un [] [7] z6]) := by
  have : un = 0 ∨ un = 1 ∨ un = 2 := by omega
  rcases this with rfl | rfl | rfl
  · exact hW.pushR (A' := A38) (m := 0) (c' := 0) ho hg (Rd.none_ _ _) (Nat.le_refl _) (Nat.zero_le _) (by omega) (fun h => absurd h (by omega))
  · refine hW.pushR (A' := some ⟨x39, 0, none⟩) (m := 1) (c' := 1) (zs := [7]) ho hg ⟨rfl, fun _ => ⟨x39, 0, rfl, fun j u hj => ?_⟩⟩ (Nat.le_refl _) (by unfold maxLen; omega) (by omega) (fun _ a e => ?_)
    · match j, hj with
      | 0, hj => simp at hj; subst hj; simpa using h7
    · cases e
      exact ⟨fun h => hx2 (by simpa [Value.ownBlock] using h.symm), hx⟩
  · obtain ⟨A2, n2, c3, us, e, hz2, ho2, h6⟩ := hW.inn 0 _ hr0
    simp only [Value.slice.injEq] at e
    obtain ⟨rfl, rfl, rfl⟩ := e
    rw [hz] at hz2
    cases hz2
    obtain ⟨A3, c4, e3, l1, l2, l3⟩ := own_form ho2
    simp only [Value.slice.injEq] at e3
    obtain ⟨rfl, _, rfl⟩ := e3
    exact hW.pushR (A' := A6) (m := n6) (c' := c6) ho hg (RdI.of_own ho2) l1 l2 h6 (fun _ a e => ⟨fun h => hW.ap 0 _ a.block hr0 (by rw [e]; rfl) h, (l3 a.block (by rw [e]; rfl)).1⟩)
theorem own_nil0 (w : World) (e : TypeId) : (w.alloc (.cells #[] e)).ownsRow w.heap.size e 1 (.slice (some ⟨w.heap.size, 0, none⟩) 0 0) 0 [] := own_lit0 w e
set_option linter.unusedSimpArgs false in
set_option maxRecDepth 100000 in
set_option maxHeartbeats 16000000 in
theorem l91Book_any (L g p : Nat) (w : World) (hs : Src w L g p) (hp : p ≤ 800000) :
    Calls Try.prog 68 #[.pointer (some ⟨g, 0, none⟩)] w (DrewBook L g p 60 w) := by
  have HS := Lib.hid hs
  have hgL : g < w.heap.size := by have := hs.lt; omega
  have hL : L ≤ w.heap.size := hs.lt.2
  clear hs
  obtain ⟨i0, hi, hz0, hz1, hz2⟩ := info_parts Try.infoRows
  go_enter Try.func68, Try.ntmps68
  go_wp2_with fail
  refine (pick_any L g p _ _ (HS.out.alloc _) (by omega) (by omega)).mono ?_
  rintro e w1 ⟨X, rfl, hX, _, hs1, hg1⟩
  obtain ⟨hX0, hX6⟩ := hX (by omega)
  have HS1 := Lib.hid hs1
  have HO1 : Hid (BookM w1 w.heap.size (.slice (some ⟨w.heap.size, 0, none⟩) 0 0) 0 [] []) :=
    ⟨own_kept (own_lit0 w _) hg1 (fun a r h1 h2 => by simp [Value.ownBlock] at h1; cases h2; omega), fun k r h => by simp at h, fun k r g' h => by simp at h, rfl⟩
  have HG1 := Lib.hid (grown_trans (grown_alloc (grown_refl w (some g)) _) hg1)
  clear hs1 hg1 hX
  go_wp2_with fail
  go_loopw [3, 5] (fun v i wr => ∃ (k n : Nat) (rs : List Value) (zss : List (List Int)) (p' : Nat), (k : Int) ≤ X ∧ n ≤ k ∧ i = .int .i64 k ∧ Hid (BookM wr w.heap.size v n rs zss) ∧ p' ≤ p + 1 + 8 * k ∧ Hid (Src wr L g p') ∧ Hid (w.grownBy wr (some g))) (fun _ i _ => 6 - (intOf i).toNat)
  case atStart => exact ⟨0, 0, [], [], p + 1, by omega, Nat.le_refl _, rfl, HO1.out, by omega, HS1.out, HG1.out⟩
  case round =>
    obtain ⟨k, n, rs, zss, p', hk, hnk, rfl, Ho, hp', Hs, Hg⟩ := hrel
    clear HO1 HS1 HG1
    obtain ⟨A2, c2, rfl, hkc, hcm, hfb⟩ := own_form Ho.out.out
    have HFB := Lib.hid hfb
    clear hfb
    have hsz : w.heap.size ≤ wr.heap.size := Hg.out.size
    by_cases hlt : (k : Int) < X
    · go_wp2_with fail
      refine (l91Code_any L g p' _ Hs.out (by omega)).mono ?_
      rintro e w2 ⟨A3, n3, c3, zs, p3, rfl, ho3, hcl, hp3, hs2, hg2⟩
      have hn36 : n3 ≤ 6 := by have h1 := ho3.1; simp at h1; have := hcl.1; omega
      have HB2 : Hid (BookM w2 w.heap.size (.slice A2 n c2) n rs zss) := Ho.out.grown hg2 (fun r e => by cases e; exact hgL)
      have HR2 := Lib.hid ho3
      have Hs2 := Lib.hid hs2
      have Hg2 := Lib.hid (grown_trans Hg.out hg2)
      have hsz2 : w.heap.size ≤ w2.heap.size := Hg2.out.size
      have HT : Hid (tot zss ≤ 36 ∧ zss.length ≤ 6) := by
        have h1 := tot_six HB2.out.tot
        have h2 := HB2.out.len
        unfold Hid; omega
      have HNE : Hid (∀ g', (Value.slice A3 n3 c3).ownBlock = some g' → (Value.slice A2 n c2).ownBlock ≠ some g') := fun g' h1 h2 => by
        have := (ho3.lt g' h1).1
        have := (Ho.out.out.lt g' h2).2
        omega
      clear ho3 hcl hs2 hg2
      go_wp2_with fail
      refine (specCodeValid_any _ _ _ zs _ (RdI.of_own HR2.out) (by omega)).mono ?_
      rintro e w3 ⟨rfl, rfl⟩
      cases hv : Cd.validB zs with
      | false =>
        clear hv
        go_wp2_with fail
        go_roundw
        case rel => exact ⟨k + 1, n, rs, zss, p3, by omega, by omega, by go_num, HB2.out, by omega, Hs2.out, Hg2.out⟩
        case measure => simp [intOf]; omega
      | true =>
        clear hv
        go_wp2_with fail
        refine (specBookFind_any _ _ _ zss _ _ _ zs _ HB2.out.rd (by omega) (by have := HT.out; omega) (RdI.of_own HR2.out) (by omega)).mono ?_
        rintro e w4 ⟨rfl, m4, rfl⟩
        have HB4 : Hid (BookM (w2.drewN m4) w.heap.size (.slice A2 n c2) n rs zss) := HB2.out.below (below_of_drewN _ _ m4)
        have HR4 := Lib.hid (own_drewN HR2.out m4)
        have Hs4 := Lib.hid (Hs2.out.drewN m4)
        have Hg4 := Lib.hid (grown_drewN Hg2.out m4)
        have hsz4 : w.heap.size ≤ (w2.drewN m4).heap.size := hsz2
        generalize w2.drewN m4 = w4 at HB4 HR4 Hs4 Hg4 hsz4 ⊢
        clear HB2 HR2 Hs2 Hg2
        by_cases hf : Bk.find zss zs < 0
        · have hd : decide (Bk.find zss zs < 0) = true := decide_eq_true hf
          clear hf
          have hown := HB4.out.out
          go_wp2_with (at_builtin; refine wpList_append_own_at _ rfl _ _ 42 rfl w.heap.size 23 i0 (.slice none 0 0) 1 24 Try.underlying42 hi hz0 hz1 hz2 rfl (by decide) _ _ _ rfl (hown.alloc _) ⟨w4.heap.size, 0, none⟩ 1 1 [.slice A3 n3 c3] rfl rfl (cell_new _ _ _) (one_cell _ rfl) ?c3 ?c4 ?c5 ?_)
          case c3 => unfold maxLen; omega
          case c4 => omega
          case c5 => simp; omega
          intro v5 w5 hown5 hgrow5 _ hblk5
          have HB5 : Hid (BookM w5 w.heap.size v5 (n + 1) (rs ++ [.slice A3 n3 c3]) (zss ++ [zs])) := by
            have ha : BookM (w4.alloc (.cells #[.slice A3 n3 c3] 23)) w.heap.size (.slice A2 n c2) n rs zss := HB4.out.below ((Below.refl _ _).alloc (Nat.le_refl _) _)
            refine ha.push hown5 hgrow5 ?_ rfl ((own_base HR4.out hsz).alloc _) hn36 HNE.out
            rcases hblk5 with h | h
            · exact .inl h
            · exact .inr (.inl (by rw [h]; simp))
          have Hs5 := Lib.hid ((Hs4.out.alloc (.cells #[.slice A3 n3 c3] 23)).grown hgrow5 (fun r h => by have := (HFB.out r h).1; omega))
          have Hg5 := Lib.hid (grown_new (grown_alloc Hg4.out (.cells #[.slice A3 n3 c3] 23)) hgrow5 (fun r h => (HFB.out r h).1))
          clear hown hown5 hgrow5 hblk5 hd
          go_wp2_with fail
          go_roundw
          case rel => exact ⟨k + 1, n + 1, _, _, p3, by omega, by omega, by go_num, HB5.out, by omega, Hs5.out, Hg5.out⟩
          case measure => simp [intOf]; omega
        · have hd : decide (Bk.find zss zs < 0) = false := decide_eq_false hf
          clear hf
          go_wp2_with fail
          go_roundw
          case rel => exact ⟨k + 1, n, rs, zss, p3, by omega, by omega, by go_num, HB4.out, by omega, Hs4.out, Hg4.out⟩
          case measure => simp [intOf]; omega
    · have hkX : (k : Int) = X := by omega
      clear hlt
      by_cases hn0 : n = 0
      · subst hn0
        go_wp2_with fail
        go_ret
        exact ⟨A2, 0, c2, zss, p', rfl, Ho.out.toR, by omega, by omega, Hs.out, Hg.out⟩
      · have hn1 : decide ((0 : Int) < (n : Int)) = true := decide_eq_true (by omega)
        go_wp2_with fail
        refine (pick_any L g p' _ _ Hs.out (by omega) (by omega)).mono ?_
        rintro e w2 ⟨y, rfl, hy, _, hs2, hg2⟩
        obtain ⟨hy0, hy3⟩ := hy (by omega)
        have HB2 : Hid (BookM w2 w.heap.size (.slice A2 n c2) n rs zss) := Ho.out.grown hg2 (fun r e => by cases e; exact hgL)
        have Hs2 := Lib.hid hs2
        have Hg2 := Lib.hid (grown_trans Hg.out hg2)
        have hsz2 : w.heap.size ≤ w2.heap.size := Hg2.out.size
        clear hs2 hg2 hy
        by_cases h0 : y = 0
        · subst h0
          obtain ⟨r0, hr0⟩ : ∃ r, rs[0]? = some r := ⟨_, List.getElem?_eq_getElem (by rw [HB2.out.rlen]; omega)⟩
          obtain ⟨A6, n6, c6, z6, rfl, hz6, ho6, hn66⟩ := HB2.out.inn 0 r0 hr0
          have hform : ∃ b0, A2 = some ⟨b0, 0, none⟩ := by
            rcases HB2.out.out.2 with ⟨h', h0⟩ | ⟨gv, cap, cur, h', _⟩
            · omega
            · simp only [Value.slice.injEq] at h'
              exact ⟨gv, h'.1⟩
          obtain ⟨b0, rfl⟩ := hform
          have hc0 : w2.cell? ⟨b0, 0, none⟩ = some (.slice A6 n6 c6) := by rw [HB2.out.out.cellAt 0 (by omega)]; exact hr0
          have hb0 : b0 < w2.heap.size := block_lt_of_cell hc0
          have hal : ∀ (W : World) (u : Value) (o : Obj), W.cell? ⟨b0, 0, none⟩ = some u → (W.alloc o).cell? ⟨b0, 0, none⟩ = some u := fun W u o h => (World.cell?_alloc_lt _ _ _ (block_lt_of_cell h)).trans h
          have HA0 : Hid (∀ o, (w2.alloc o).drew.cell? ⟨b0, 0, none⟩ = some (.slice A6 n6 c6)) := fun o => hal _ _ o hc0
          have HA1 : Hid (∀ o o', ((w2.alloc o).alloc o').drew.cell? ⟨b0, 0, none⟩ = some (.slice A6 n6 c6)) := fun o o' => hal _ _ o' (hal _ _ o hc0)
          have HA2 : Hid (∀ o o' o'', (((w2.alloc o).alloc o').alloc o'').drew.cell? ⟨b0, 0, none⟩ = some (.slice A6 n6 c6)) := fun o o' o'' => hal _ _ o'' (hal _ _ o' (hal _ _ o hc0))
          have HNG : Hid (some b0 ≠ some g) := fun e => by have h1 := HB2.out.out.lt b0 rfl; have h2 := Option.some.inj e; omega
          have HGW : Hid (g < ((w2.alloc (.cells #[] 3)).alloc (.cells #[.int .i64 7] 3)).heap.size ∧ g < ((w2.alloc (.cells #[.int .i64 7] 3)).alloc (.cells #[] 3)).heap.size) := by unfold Hid; simp; omega
          have HGR : Hid (∀ g', some g = some g' → g' < w.heap.size) := fun g' e => by have := Option.some.inj e; omega
          have hb1 : b0 < w2.heap.size + 1 := by omega
          have hb2 : b0 < w2.heap.size + 1 + 1 := by omega
          have HENT : Hid (Enters Try.prog 69) := enters_of Try.func69 (by kernel_rfl) rfl
          clear hal
          have hbw : w.heap.size ≤ b0 := (HB2.out.out.lt b0 rfl).1
          go_upto_region 10 with fail
          -- region 10, printed by mkregion10.py
          refine wp_region_held_drew (S := fun W => W.cell? ⟨b0, 0, none⟩ = some (.slice A6 n6 c6)) (by kernel_rfl) hc0 (fun hHeld => ?_)
          refine wpAnyH_take (i := 0) (oi := _) (v := ?v0) rfl (by kernel_rfl) (by kernel_rfl) (by kernel_rfl) (fun _ _ _ h => h) (Or.inl ⟨by rfl, ?h0⟩) (by assumption) ?_
          case h0 =>
            intro w hSw
            try dsimp only at hSw
            go_simp
            try with_reducible rfl
          try simp only [Act.put, List.setIfInBounds_toArray, List.set_cons_zero, List.set_cons_succ]
          refine wpAnyH_take (i := 3) (oi := _) (v := ?v3) rfl (by kernel_rfl) (by kernel_rfl) (by kernel_rfl) (fun _ _ _ h => h) (Or.inl ⟨by rfl, ?h3⟩) (by assumption) ?_
          case h3 =>
            intro w hSw
            try dsimp only at hSw
            go_simp
            try with_reducible rfl
          try simp only [Act.put, List.setIfInBounds_toArray, List.set_cons_zero, List.set_cons_succ]
          refine wpAnyH_take (i := 4) (oi := _) (v := ?v4) rfl (by kernel_rfl) (by kernel_rfl) (by kernel_rfl) (fun _ _ _ h => h) (Or.inl ⟨by rfl, ?h4⟩) (by assumption) ?_
          case h4 =>
            intro w hSw
            try dsimp only at hSw
            go_simp
            try with_reducible rfl
          try simp only [Act.put, List.setIfInBounds_toArray, List.set_cons_zero, List.set_cons_succ]
          refine wpAnyH_take (i := 5) (oi := _) (v := ?v5) rfl (by kernel_rfl) (by kernel_rfl) (by kernel_rfl) (fun _ _ _ h => h) (Or.inl ⟨by rfl, ?h5⟩) (by assumption) ?_
          case h5 =>
            intro w hSw
            try dsimp only at hSw
            go_simp
            try with_reducible rfl
          try simp only [Act.put, List.setIfInBounds_toArray, List.set_cons_zero, List.set_cons_succ]
          refine wpAnyH_take (i := 7) (oi := _) (v := ?v7) rfl (by kernel_rfl) (by kernel_rfl) (by kernel_rfl) (fun _ _ _ h => h) (Or.inl ⟨by rfl, ?h7⟩) (by assumption) ?_
          case h7 =>
            intro w hSw
            try dsimp only at hSw
            go_simp
            try with_reducible rfl
          try simp only [Act.put, List.setIfInBounds_toArray, List.set_cons_zero, List.set_cons_succ]
          refine wpAnyH_ready (rs := [1, 2, 8]) (by kernel_rfl) (by simp) ?_
          refine AllReadyH.cons (o := _) rfl (fun K hK => ?_) ?_
          · go_simp
            refine hK.out _ _ ?_ (fun hHeld => ?_)
            · first | exact hc0 | exact HA0.out _ | exact HA1.out _ _ | exact HA2.out _ _ _ | exact hc3 | exact HD0.out _ | exact HD1.out _ _ | exact HD2.out _ _ _ | exact HD3.out _ _ _ _ | exact hc5
            clear hK K
            try simp only [Act.put, List.setIfInBounds_toArray, List.set_cons_zero, List.set_cons_succ]
            refine wpAnyH_ready (rs := [2, 8]) (by kernel_rfl) (by simp) ?_
            refine AllReadyH.cons (o := _) rfl (fun K hK => ?_) ?_
            · go_simp
              refine hK.out _ _ ?_ (fun hHeld => ?_)
              · first | exact hc0 | exact HA0.out _ | exact HA1.out _ _ | exact HA2.out _ _ _ | exact hc3 | exact HD0.out _ | exact HD1.out _ _ | exact HD2.out _ _ _ | exact HD3.out _ _ _ _ | exact hc5
              clear hK K
              try simp only [Act.put, List.setIfInBounds_toArray, List.set_cons_zero, List.set_cons_succ]
              refine wpAnyH_ready (rs := [6, 8]) (by kernel_rfl) (by simp) ?_
              refine AllReadyH.cons (o := _) rfl (fun K hK => ?_) ?_
              · go_simp
                refine hK.out _ _ ?_ (fun hHeld => ?_)
                · first | exact hc0 | exact HA0.out _ | exact HA1.out _ _ | exact HA2.out _ _ _ | exact hc3 | exact HD0.out _ | exact HD1.out _ _ | exact HD2.out _ _ _ | exact HD3.out _ _ _ _ | exact hc5
                clear hK K
                try simp only [Act.put, List.setIfInBounds_toArray, List.set_cons_zero, List.set_cons_succ]
                refine wpAnyH_ready (rs := [8]) (by kernel_rfl) (by simp) ?_
                refine AllReadyH.cons (o := _) rfl (fun K hK => ?_) ?_
                · refine step_call _ rfl 69 _ _ rfl #[.pointer (some ⟨g, 0, none⟩), .int .i64 3] rfl (HENT.out _ _) (pick3_any L g (p' + 1) b0 (.slice A6 n6 c6) _ (Src.drew1 (Src.alloc (Src.alloc (Src.alloc Hs2.out _) _) _)) (by omega) (HA2.out _ _ _) HNG.out) ?_
                  rintro v3 w3 ⟨un, ⟨hun, hu0, hu1⟩, rfl, Hs3, HG3, hp0, hp1, hp2, hc3, HD0, HD1, HD2, HD3⟩
                  have hd0 : b0 < w3.heap.size := block_lt_of_cell hc3
                  have hd1 : b0 < w3.heap.size + 1 := by omega
                  have hd2 : b0 < w3.heap.size + 1 + 1 := by omega
                  have hq := lit3_after (W := (w2.alloc (.cells #[] 3)).alloc (.cells #[.int .i64 7] 3)) HG3.out HGW.out.1 hun
                  simp only [World.size_alloc] at hq
                  have HB3 : Hid (BookM w3 w.heap.size (.slice (some ⟨b0, 0, none⟩) n c2) n rs zss) := (((HB2.out.al _).al _).al _).dr.grown HG3.out HGR.out
                  have hz3 : w2.heap.size ≤ w3.heap.size := by have := HG3.out.size; simp at this; omega
                  refine hK.out _ _ ?_ (fun hHeld => ?_)
                  · first | exact hc0 | exact HA0.out _ | exact HA1.out _ _ | exact HA2.out _ _ _ | exact hc3 | exact HD0.out _ | exact HD1.out _ _ | exact HD2.out _ _ _ | exact HD3.out _ _ _ _ | exact hc5
                  clear hK K
                  try simp only [Act.put, List.setIfInBounds_toArray, List.set_cons_zero, List.set_cons_succ]
                  refine wpAnyH_ready (rs := [9]) (by kernel_rfl) (by simp) ?_
                  refine AllReadyH.cons (o := _) rfl (fun K hK => ?_) ?_
                  · go_simp
                    refine hK.out _ _ ?_ (fun hHeld => ?_)
                    · first | exact hc0 | exact HA0.out _ | exact HA1.out _ _ | exact HA2.out _ _ _ | exact hc3 | exact HD0.out _ | exact HD1.out _ _ | exact HD2.out _ _ _ | exact HD3.out _ _ _ _ | exact hc5
                    clear hK K
                    try simp only [Act.put, List.setIfInBounds_toArray, List.set_cons_zero, List.set_cons_succ]
                    refine wpAnyH_ready (rs := [10]) (by kernel_rfl) (by simp) ?_
                    refine AllReadyH.cons (o := _) rfl (fun K hK => ?_) ?_
                    · go_simp
                      refine hK.out _ _ ?_ (fun hHeld => ?_)
                      · first | exact hc0 | exact HA0.out _ | exact HA1.out _ _ | exact HA2.out _ _ _ | exact hc3 | exact HD0.out _ | exact HD1.out _ _ | exact HD2.out _ _ _ | exact HD3.out _ _ _ _ | exact hc5
                      clear hK K
                      try simp only [Act.put, List.setIfInBounds_toArray, List.set_cons_zero, List.set_cons_succ]
                      refine wpAnyH_ready (rs := [11]) (by kernel_rfl) (by simp) ?_
                      refine AllReadyH.cons (o := _) rfl (fun K hK => ?_) ?_
                      · go_simp
                        refine hK.out _ _ ?_ (fun hHeld => ?_)
                        · first | exact hc0 | exact HA0.out _ | exact HA1.out _ _ | exact HA2.out _ _ _ | exact hc3 | exact HD0.out _ | exact HD1.out _ _ | exact HD2.out _ _ _ | exact HD3.out _ _ _ _ | exact hc5
                        clear hK K
                        try simp only [Act.put, List.setIfInBounds_toArray, List.set_cons_zero, List.set_cons_succ]
                        refine wpAnyH_ready (rs := [12]) (by kernel_rfl) (by simp) ?_
                        refine AllReadyH.cons (o := _) rfl (fun K hK => ?_) ?_
                        · refine step_append_keep _ rfl _ _ _ rfl w.heap.size 23 i0 (.slice none 0 0) 1 24 Try.underlying42 hi hz0 hz1 hz2 rfl Nat.zero_lt_one b0 n c2 rs rfl ?_ ⟨_, 0, none⟩ 1 1 [?_] rfl rfl ?_ ?_ Nat.zero_lt_one ?_ ?_ ?_ ?_
                          exact (World.ownsRow.alloc HB3.out.out _)
                          rotate_left
                          exact cell_new _ _ _
                          exact one_cell _ rfl
                          unfold maxLen; omega
                          omega
                          simp <;> omega
                          intro g5 cap5 w5 hown5 hgrow5 hat5 hlt5 hold5
                          have hc5 := hold5 0 _ hr0
                          refine hK.out _ _ ?_ (fun hHeld => ?_)
                          · first | exact hc0 | exact HA0.out _ | exact HA1.out _ _ | exact HA2.out _ _ _ | exact hc3 | exact HD0.out _ | exact HD1.out _ _ | exact HD2.out _ _ _ | exact HD3.out _ _ _ _ | exact hc5
                          clear hK K
                          try simp only [Act.put, List.setIfInBounds_toArray, List.set_cons_zero, List.set_cons_succ]
                          refine wpAnyH_ready (rs := [13]) (by kernel_rfl) (by simp) ?_
                          refine AllReadyH.cons (o := _) rfl (fun K hK => ?_) ?_
                          · go_simp
                            refine hK.out _ _ ?_ (fun hHeld => ?_)
                            · first | exact hc0 | exact HA0.out _ | exact HA1.out _ _ | exact HA2.out _ _ _ | exact hc3 | exact HD0.out _ | exact HD1.out _ _ | exact HD2.out _ _ _ | exact HD3.out _ _ _ _ | exact hc5
                            clear hK K
                            try simp only [Act.put, List.setIfInBounds_toArray, List.set_cons_zero, List.set_cons_succ]
                            refine wpAnyH_done (by kernel_rfl) ?_ _
                            go_wp2_with fail
                            go_ret
                            have h7 : w3.cell? ⟨w2.heap.size + 1, 0, none⟩ = some (.int .i64 7) := HG3.out.cell (a := ⟨w2.heap.size + 1, 0, none⟩) (al_cell (cell7_1 w2 _) _) (fun e => by have h1 : w2.heap.size + 1 = g := Option.some.inj e; omega)
                            refine ⟨_, n + 1, _, zss ++ [p3 un [] [7] z6], p' + 1 + 1, rfl, fin_row (BookM.al HB3.out _) hown5 hgrow5 hr0 hun (al_cell h7 _) (by omega) (by omega) hz6, by omega, by omega, (Src.alloc Hs3.out _).grown hgrow5 (fun r h => by cases h; omega), grown_new (grown_alloc (grown_trans (grown_drewN (grown_alloc (grown_alloc (grown_alloc Hg2.out _) _) _) 1) HG3.out) _) hgrow5 (fun r h => by cases h; omega)⟩
                          exact AllReadyH.nil
                        exact AllReadyH.nil
                      exact AllReadyH.nil
                    exact AllReadyH.nil
                  exact AllReadyH.nil
                exact AllReadyH.nil
              refine AllReadyH.cons (o := _) rfl (fun K hK => ?_) ?_
              · refine step_call _ rfl 69 _ _ rfl #[.pointer (some ⟨g, 0, none⟩), .int .i64 3] rfl (HENT.out _ _) (pick3_any L g (p' + 1) b0 (.slice A6 n6 c6) _ (Src.drew1 (Src.alloc (Src.alloc Hs2.out _) _)) (by omega) (HA1.out _ _) HNG.out) ?_
                rintro v3 w3 ⟨un, ⟨hun, hu0, hu1⟩, rfl, Hs3, HG3, hp0, hp1, hp2, hc3, HD0, HD1, HD2, HD3⟩
                have hd0 : b0 < w3.heap.size := block_lt_of_cell hc3
                have hd1 : b0 < w3.heap.size + 1 := by omega
                have hd2 : b0 < w3.heap.size + 1 + 1 := by omega
                have HB3 : Hid (BookM w3 w.heap.size (.slice (some ⟨b0, 0, none⟩) n c2) n rs zss) := ((HB2.out.al _).al _).dr.grown HG3.out HGR.out
                have hz3 : w2.heap.size ≤ w3.heap.size := by have := HG3.out.size; simp at this; omega
                refine hK.out _ _ ?_ (fun hHeld => ?_)
                · first | exact hc0 | exact HA0.out _ | exact HA1.out _ _ | exact HA2.out _ _ _ | exact hc3 | exact HD0.out _ | exact HD1.out _ _ | exact HD2.out _ _ _ | exact HD3.out _ _ _ _ | exact hc5
                clear hK K
                try simp only [Act.put, List.setIfInBounds_toArray, List.set_cons_zero, List.set_cons_succ]
                refine wpAnyH_ready (rs := [6]) (by kernel_rfl) (by simp) ?_
                refine AllReadyH.cons (o := _) rfl (fun K hK => ?_) ?_
                · go_simp
                  refine hK.out _ _ ?_ (fun hHeld => ?_)
                  · first | exact hc0 | exact HA0.out _ | exact HA1.out _ _ | exact HA2.out _ _ _ | exact hc3 | exact HD0.out _ | exact HD1.out _ _ | exact HD2.out _ _ _ | exact HD3.out _ _ _ _ | exact hc5
                  clear hK K
                  try simp only [Act.put, List.setIfInBounds_toArray, List.set_cons_zero, List.set_cons_succ]
                  refine wpAnyH_ready (rs := [9]) (by kernel_rfl) (by simp) ?_
                  refine AllReadyH.cons (o := _) rfl (fun K hK => ?_) ?_
                  · go_simp
                    refine hK.out _ _ ?_ (fun hHeld => ?_)
                    · first | exact hc0 | exact HA0.out _ | exact HA1.out _ _ | exact HA2.out _ _ _ | exact hc3 | exact HD0.out _ | exact HD1.out _ _ | exact HD2.out _ _ _ | exact HD3.out _ _ _ _ | exact hc5
                    clear hK K
                    try simp only [Act.put, List.setIfInBounds_toArray, List.set_cons_zero, List.set_cons_succ]
                    refine wpAnyH_ready (rs := [10]) (by kernel_rfl) (by simp) ?_
                    refine AllReadyH.cons (o := _) rfl (fun K hK => ?_) ?_
                    · go_simp
                      refine hK.out _ _ ?_ (fun hHeld => ?_)
                      · first | exact hc0 | exact HA0.out _ | exact HA1.out _ _ | exact HA2.out _ _ _ | exact hc3 | exact HD0.out _ | exact HD1.out _ _ | exact HD2.out _ _ _ | exact HD3.out _ _ _ _ | exact hc5
                      clear hK K
                      try simp only [Act.put, List.setIfInBounds_toArray, List.set_cons_zero, List.set_cons_succ]
                      refine wpAnyH_ready (rs := [11]) (by kernel_rfl) (by simp) ?_
                      refine AllReadyH.cons (o := _) rfl (fun K hK => ?_) ?_
                      · go_simp
                        refine hK.out _ _ ?_ (fun hHeld => ?_)
                        · first | exact hc0 | exact HA0.out _ | exact HA1.out _ _ | exact HA2.out _ _ _ | exact hc3 | exact HD0.out _ | exact HD1.out _ _ | exact HD2.out _ _ _ | exact HD3.out _ _ _ _ | exact hc5
                        clear hK K
                        try simp only [Act.put, List.setIfInBounds_toArray, List.set_cons_zero, List.set_cons_succ]
                        refine wpAnyH_ready (rs := [12]) (by kernel_rfl) (by simp) ?_
                        refine AllReadyH.cons (o := _) rfl (fun K hK => ?_) ?_
                        · refine step_append_keep _ rfl _ _ _ rfl w.heap.size 23 i0 (.slice none 0 0) 1 24 Try.underlying42 hi hz0 hz1 hz2 rfl Nat.zero_lt_one b0 n c2 rs rfl ?_ ⟨_, 0, none⟩ 1 1 [?_] rfl rfl ?_ ?_ Nat.zero_lt_one ?_ ?_ ?_ ?_
                          exact (World.ownsRow.alloc (World.ownsRow.alloc HB3.out.out _) _)
                          rotate_left
                          exact cell_new1 _ _ _ _
                          exact one_cell _ rfl
                          unfold maxLen; omega
                          omega
                          simp <;> omega
                          intro g5 cap5 w5 hown5 hgrow5 hat5 hlt5 hold5
                          have hc5 := hold5 0 _ hr0
                          refine hK.out _ _ ?_ (fun hHeld => ?_)
                          · first | exact hc0 | exact HA0.out _ | exact HA1.out _ _ | exact HA2.out _ _ _ | exact hc3 | exact HD0.out _ | exact HD1.out _ _ | exact HD2.out _ _ _ | exact HD3.out _ _ _ _ | exact hc5
                          clear hK K
                          try simp only [Act.put, List.setIfInBounds_toArray, List.set_cons_zero, List.set_cons_succ]
                          refine wpAnyH_ready (rs := [13]) (by kernel_rfl) (by simp) ?_
                          refine AllReadyH.cons (o := _) rfl (fun K hK => ?_) ?_
                          · go_simp
                            refine hK.out _ _ ?_ (fun hHeld => ?_)
                            · first | exact hc0 | exact HA0.out _ | exact HA1.out _ _ | exact HA2.out _ _ _ | exact hc3 | exact HD0.out _ | exact HD1.out _ _ | exact HD2.out _ _ _ | exact HD3.out _ _ _ _ | exact hc5
                            clear hK K
                            try simp only [Act.put, List.setIfInBounds_toArray, List.set_cons_zero, List.set_cons_succ]
                            refine wpAnyH_done (by kernel_rfl) ?_ _
                            go_wp2_with fail
                            go_ret
                            have h7 : w3.cell? ⟨w2.heap.size + 1, 0, none⟩ = some (.int .i64 7) := HG3.out.cell (a := ⟨w2.heap.size + 1, 0, none⟩) (cell7_1 w2 _) (fun e => by have h1 : w2.heap.size + 1 = g := Option.some.inj e; omega)
                            refine ⟨_, n + 1, _, zss ++ [p3 un [] [7] z6], p' + 1 + 1, rfl, fin_row (BookM.al (BookM.al HB3.out _) _) hown5 hgrow5 hr0 hun (al_cell (al_cell h7 _) _) (by omega) (by omega) hz6, by omega, by omega, (Src.alloc (Src.alloc Hs3.out _) _).grown hgrow5 (fun r h => by cases h; omega), grown_new (grown_alloc (grown_alloc (grown_trans (grown_drewN (grown_alloc (grown_alloc Hg2.out _) _) 1) HG3.out) _) _) hgrow5 (fun r h => by cases h; omega)⟩
                          exact AllReadyH.nil
                        exact AllReadyH.nil
                      exact AllReadyH.nil
                    exact AllReadyH.nil
                  exact AllReadyH.nil
                exact AllReadyH.nil
              exact AllReadyH.nil
            refine AllReadyH.cons (o := _) rfl (fun K hK => ?_) ?_
            · refine step_call _ rfl 69 _ _ rfl #[.pointer (some ⟨g, 0, none⟩), .int .i64 3] rfl (HENT.out _ _) (pick3_any L g (p' + 1) b0 (.slice A6 n6 c6) _ (Src.drew1 (Src.alloc Hs2.out _)) (by omega) (HA0.out _) HNG.out) ?_
              rintro v3 w3 ⟨un, ⟨hun, hu0, hu1⟩, rfl, Hs3, HG3, hp0, hp1, hp2, hc3, HD0, HD1, HD2, HD3⟩
              have hd0 : b0 < w3.heap.size := block_lt_of_cell hc3
              have hd1 : b0 < w3.heap.size + 1 := by omega
              have hd2 : b0 < w3.heap.size + 1 + 1 := by omega
              have HB3 : Hid (BookM w3 w.heap.size (.slice (some ⟨b0, 0, none⟩) n c2) n rs zss) := (HB2.out.al _).dr.grown HG3.out HGR.out
              have hz3 : w2.heap.size ≤ w3.heap.size := by have := HG3.out.size; simp at this; omega
              refine hK.out _ _ ?_ (fun hHeld => ?_)
              · first | exact hc0 | exact HA0.out _ | exact HA1.out _ _ | exact HA2.out _ _ _ | exact hc3 | exact HD0.out _ | exact HD1.out _ _ | exact HD2.out _ _ _ | exact HD3.out _ _ _ _ | exact hc5
              clear hK K
              try simp only [Act.put, List.setIfInBounds_toArray, List.set_cons_zero, List.set_cons_succ]
              refine wpAnyH_ready (rs := [2]) (by kernel_rfl) (by simp) ?_
              refine AllReadyH.cons (o := _) rfl (fun K hK => ?_) ?_
              · go_simp
                refine hK.out _ _ ?_ (fun hHeld => ?_)
                · first | exact hc0 | exact HA0.out _ | exact HA1.out _ _ | exact HA2.out _ _ _ | exact hc3 | exact HD0.out _ | exact HD1.out _ _ | exact HD2.out _ _ _ | exact HD3.out _ _ _ _ | exact hc5
                clear hK K
                try simp only [Act.put, List.setIfInBounds_toArray, List.set_cons_zero, List.set_cons_succ]
                refine wpAnyH_ready (rs := [6]) (by kernel_rfl) (by simp) ?_
                refine AllReadyH.cons (o := _) rfl (fun K hK => ?_) ?_
                · go_simp
                  refine hK.out _ _ ?_ (fun hHeld => ?_)
                  · first | exact hc0 | exact HA0.out _ | exact HA1.out _ _ | exact HA2.out _ _ _ | exact hc3 | exact HD0.out _ | exact HD1.out _ _ | exact HD2.out _ _ _ | exact HD3.out _ _ _ _ | exact hc5
                  clear hK K
                  try simp only [Act.put, List.setIfInBounds_toArray, List.set_cons_zero, List.set_cons_succ]
                  refine wpAnyH_ready (rs := [9]) (by kernel_rfl) (by simp) ?_
                  refine AllReadyH.cons (o := _) rfl (fun K hK => ?_) ?_
                  · go_simp
                    refine hK.out _ _ ?_ (fun hHeld => ?_)
                    · first | exact hc0 | exact HA0.out _ | exact HA1.out _ _ | exact HA2.out _ _ _ | exact hc3 | exact HD0.out _ | exact HD1.out _ _ | exact HD2.out _ _ _ | exact HD3.out _ _ _ _ | exact hc5
                    clear hK K
                    try simp only [Act.put, List.setIfInBounds_toArray, List.set_cons_zero, List.set_cons_succ]
                    refine wpAnyH_ready (rs := [10]) (by kernel_rfl) (by simp) ?_
                    refine AllReadyH.cons (o := _) rfl (fun K hK => ?_) ?_
                    · go_simp
                      refine hK.out _ _ ?_ (fun hHeld => ?_)
                      · first | exact hc0 | exact HA0.out _ | exact HA1.out _ _ | exact HA2.out _ _ _ | exact hc3 | exact HD0.out _ | exact HD1.out _ _ | exact HD2.out _ _ _ | exact HD3.out _ _ _ _ | exact hc5
                      clear hK K
                      try simp only [Act.put, List.setIfInBounds_toArray, List.set_cons_zero, List.set_cons_succ]
                      refine wpAnyH_ready (rs := [11]) (by kernel_rfl) (by simp) ?_
                      refine AllReadyH.cons (o := _) rfl (fun K hK => ?_) ?_
                      · go_simp
                        refine hK.out _ _ ?_ (fun hHeld => ?_)
                        · first | exact hc0 | exact HA0.out _ | exact HA1.out _ _ | exact HA2.out _ _ _ | exact hc3 | exact HD0.out _ | exact HD1.out _ _ | exact HD2.out _ _ _ | exact HD3.out _ _ _ _ | exact hc5
                        clear hK K
                        try simp only [Act.put, List.setIfInBounds_toArray, List.set_cons_zero, List.set_cons_succ]
                        refine wpAnyH_ready (rs := [12]) (by kernel_rfl) (by simp) ?_
                        refine AllReadyH.cons (o := _) rfl (fun K hK => ?_) ?_
                        · refine step_append_keep _ rfl _ _ _ rfl w.heap.size 23 i0 (.slice none 0 0) 1 24 Try.underlying42 hi hz0 hz1 hz2 rfl Nat.zero_lt_one b0 n c2 rs rfl ?_ ⟨_, 0, none⟩ 1 1 [?_] rfl rfl ?_ ?_ Nat.zero_lt_one ?_ ?_ ?_ ?_
                          exact (World.ownsRow.alloc (World.ownsRow.alloc (World.ownsRow.alloc HB3.out.out _) _) _)
                          rotate_left
                          exact cell_new2 _ _ _ _ _
                          exact one_cell _ rfl
                          unfold maxLen; omega
                          omega
                          simp <;> omega
                          intro g5 cap5 w5 hown5 hgrow5 hat5 hlt5 hold5
                          have hc5 := hold5 0 _ hr0
                          refine hK.out _ _ ?_ (fun hHeld => ?_)
                          · first | exact hc0 | exact HA0.out _ | exact HA1.out _ _ | exact HA2.out _ _ _ | exact hc3 | exact HD0.out _ | exact HD1.out _ _ | exact HD2.out _ _ _ | exact HD3.out _ _ _ _ | exact hc5
                          clear hK K
                          try simp only [Act.put, List.setIfInBounds_toArray, List.set_cons_zero, List.set_cons_succ]
                          refine wpAnyH_ready (rs := [13]) (by kernel_rfl) (by simp) ?_
                          refine AllReadyH.cons (o := _) rfl (fun K hK => ?_) ?_
                          · go_simp
                            refine hK.out _ _ ?_ (fun hHeld => ?_)
                            · first | exact hc0 | exact HA0.out _ | exact HA1.out _ _ | exact HA2.out _ _ _ | exact hc3 | exact HD0.out _ | exact HD1.out _ _ | exact HD2.out _ _ _ | exact HD3.out _ _ _ _ | exact hc5
                            clear hK K
                            try simp only [Act.put, List.setIfInBounds_toArray, List.set_cons_zero, List.set_cons_succ]
                            refine wpAnyH_done (by kernel_rfl) ?_ _
                            go_wp2_with fail
                            go_ret
                            refine ⟨_, n + 1, _, zss ++ [p3 un [] [7] z6], p' + 1 + 1, rfl, fin_row (BookM.al (BookM.al (BookM.al HB3.out _) _) _) hown5 hgrow5 hr0 hun (al_cell (al_cell (cell7_0 w3) _) _) (by omega) (by omega) hz6, by omega, by omega, (Src.alloc (Src.alloc (Src.alloc Hs3.out _) _) _).grown hgrow5 (fun r h => by cases h; omega), grown_new (grown_alloc (grown_alloc (grown_alloc (grown_trans (grown_drewN (grown_alloc Hg2.out _) 1) HG3.out) _) _) _) hgrow5 (fun r h => by cases h; omega)⟩
                          exact AllReadyH.nil
                        exact AllReadyH.nil
                      exact AllReadyH.nil
                    exact AllReadyH.nil
                  exact AllReadyH.nil
                exact AllReadyH.nil
              exact AllReadyH.nil
            exact AllReadyH.nil
          refine AllReadyH.cons (o := _) rfl (fun K hK => ?_) ?_
          · go_simp
            refine hK.out _ _ ?_ (fun hHeld => ?_)
            · first | exact hc0 | exact HA0.out _ | exact HA1.out _ _ | exact HA2.out _ _ _ | exact hc3 | exact HD0.out _ | exact HD1.out _ _ | exact HD2.out _ _ _ | exact HD3.out _ _ _ _ | exact hc5
            clear hK K
            try simp only [Act.put, List.setIfInBounds_toArray, List.set_cons_zero, List.set_cons_succ]
            refine wpAnyH_ready (rs := [1, 8]) (by kernel_rfl) (by simp) ?_
            refine AllReadyH.cons (o := _) rfl (fun K hK => ?_) ?_
            · go_simp
              refine hK.out _ _ ?_ (fun hHeld => ?_)
              · first | exact hc0 | exact HA0.out _ | exact HA1.out _ _ | exact HA2.out _ _ _ | exact hc3 | exact HD0.out _ | exact HD1.out _ _ | exact HD2.out _ _ _ | exact HD3.out _ _ _ _ | exact hc5
              clear hK K
              try simp only [Act.put, List.setIfInBounds_toArray, List.set_cons_zero, List.set_cons_succ]
              refine wpAnyH_ready (rs := [6, 8]) (by kernel_rfl) (by simp) ?_
              refine AllReadyH.cons (o := _) rfl (fun K hK => ?_) ?_
              · go_simp
                refine hK.out _ _ ?_ (fun hHeld => ?_)
                · first | exact hc0 | exact HA0.out _ | exact HA1.out _ _ | exact HA2.out _ _ _ | exact hc3 | exact HD0.out _ | exact HD1.out _ _ | exact HD2.out _ _ _ | exact HD3.out _ _ _ _ | exact hc5
                clear hK K
                try simp only [Act.put, List.setIfInBounds_toArray, List.set_cons_zero, List.set_cons_succ]
                refine wpAnyH_ready (rs := [8]) (by kernel_rfl) (by simp) ?_
                refine AllReadyH.cons (o := _) rfl (fun K hK => ?_) ?_
                · refine step_call _ rfl 69 _ _ rfl #[.pointer (some ⟨g, 0, none⟩), .int .i64 3] rfl (HENT.out _ _) (pick3_any L g (p' + 1) b0 (.slice A6 n6 c6) _ (Src.drew1 (Src.alloc (Src.alloc (Src.alloc Hs2.out _) _) _)) (by omega) (HA2.out _ _ _) HNG.out) ?_
                  rintro v3 w3 ⟨un, ⟨hun, hu0, hu1⟩, rfl, Hs3, HG3, hp0, hp1, hp2, hc3, HD0, HD1, HD2, HD3⟩
                  have hd0 : b0 < w3.heap.size := block_lt_of_cell hc3
                  have hd1 : b0 < w3.heap.size + 1 := by omega
                  have hd2 : b0 < w3.heap.size + 1 + 1 := by omega
                  have hq := lit3_after (W := (w2.alloc (.cells #[.int .i64 7] 3)).alloc (.cells #[] 3)) HG3.out HGW.out.2 hun
                  simp only [World.size_alloc] at hq
                  have HB3 : Hid (BookM w3 w.heap.size (.slice (some ⟨b0, 0, none⟩) n c2) n rs zss) := (((HB2.out.al _).al _).al _).dr.grown HG3.out HGR.out
                  have hz3 : w2.heap.size ≤ w3.heap.size := by have := HG3.out.size; simp at this; omega
                  refine hK.out _ _ ?_ (fun hHeld => ?_)
                  · first | exact hc0 | exact HA0.out _ | exact HA1.out _ _ | exact HA2.out _ _ _ | exact hc3 | exact HD0.out _ | exact HD1.out _ _ | exact HD2.out _ _ _ | exact HD3.out _ _ _ _ | exact hc5
                  clear hK K
                  try simp only [Act.put, List.setIfInBounds_toArray, List.set_cons_zero, List.set_cons_succ]
                  refine wpAnyH_ready (rs := [9]) (by kernel_rfl) (by simp) ?_
                  refine AllReadyH.cons (o := _) rfl (fun K hK => ?_) ?_
                  · go_simp
                    refine hK.out _ _ ?_ (fun hHeld => ?_)
                    · first | exact hc0 | exact HA0.out _ | exact HA1.out _ _ | exact HA2.out _ _ _ | exact hc3 | exact HD0.out _ | exact HD1.out _ _ | exact HD2.out _ _ _ | exact HD3.out _ _ _ _ | exact hc5
                    clear hK K
                    try simp only [Act.put, List.setIfInBounds_toArray, List.set_cons_zero, List.set_cons_succ]
                    refine wpAnyH_ready (rs := [10]) (by kernel_rfl) (by simp) ?_
                    refine AllReadyH.cons (o := _) rfl (fun K hK => ?_) ?_
                    · go_simp
                      refine hK.out _ _ ?_ (fun hHeld => ?_)
                      · first | exact hc0 | exact HA0.out _ | exact HA1.out _ _ | exact HA2.out _ _ _ | exact hc3 | exact HD0.out _ | exact HD1.out _ _ | exact HD2.out _ _ _ | exact HD3.out _ _ _ _ | exact hc5
                      clear hK K
                      try simp only [Act.put, List.setIfInBounds_toArray, List.set_cons_zero, List.set_cons_succ]
                      refine wpAnyH_ready (rs := [11]) (by kernel_rfl) (by simp) ?_
                      refine AllReadyH.cons (o := _) rfl (fun K hK => ?_) ?_
                      · go_simp
                        refine hK.out _ _ ?_ (fun hHeld => ?_)
                        · first | exact hc0 | exact HA0.out _ | exact HA1.out _ _ | exact HA2.out _ _ _ | exact hc3 | exact HD0.out _ | exact HD1.out _ _ | exact HD2.out _ _ _ | exact HD3.out _ _ _ _ | exact hc5
                        clear hK K
                        try simp only [Act.put, List.setIfInBounds_toArray, List.set_cons_zero, List.set_cons_succ]
                        refine wpAnyH_ready (rs := [12]) (by kernel_rfl) (by simp) ?_
                        refine AllReadyH.cons (o := _) rfl (fun K hK => ?_) ?_
                        · refine step_append_keep _ rfl _ _ _ rfl w.heap.size 23 i0 (.slice none 0 0) 1 24 Try.underlying42 hi hz0 hz1 hz2 rfl Nat.zero_lt_one b0 n c2 rs rfl ?_ ⟨_, 0, none⟩ 1 1 [?_] rfl rfl ?_ ?_ Nat.zero_lt_one ?_ ?_ ?_ ?_
                          exact (World.ownsRow.alloc HB3.out.out _)
                          rotate_left
                          exact cell_new _ _ _
                          exact one_cell _ rfl
                          unfold maxLen; omega
                          omega
                          simp <;> omega
                          intro g5 cap5 w5 hown5 hgrow5 hat5 hlt5 hold5
                          have hc5 := hold5 0 _ hr0
                          refine hK.out _ _ ?_ (fun hHeld => ?_)
                          · first | exact hc0 | exact HA0.out _ | exact HA1.out _ _ | exact HA2.out _ _ _ | exact hc3 | exact HD0.out _ | exact HD1.out _ _ | exact HD2.out _ _ _ | exact HD3.out _ _ _ _ | exact hc5
                          clear hK K
                          try simp only [Act.put, List.setIfInBounds_toArray, List.set_cons_zero, List.set_cons_succ]
                          refine wpAnyH_ready (rs := [13]) (by kernel_rfl) (by simp) ?_
                          refine AllReadyH.cons (o := _) rfl (fun K hK => ?_) ?_
                          · go_simp
                            refine hK.out _ _ ?_ (fun hHeld => ?_)
                            · first | exact hc0 | exact HA0.out _ | exact HA1.out _ _ | exact HA2.out _ _ _ | exact hc3 | exact HD0.out _ | exact HD1.out _ _ | exact HD2.out _ _ _ | exact HD3.out _ _ _ _ | exact hc5
                            clear hK K
                            try simp only [Act.put, List.setIfInBounds_toArray, List.set_cons_zero, List.set_cons_succ]
                            refine wpAnyH_done (by kernel_rfl) ?_ _
                            go_wp2_with fail
                            go_ret
                            have h7 : w3.cell? ⟨w2.heap.size, 0, none⟩ = some (.int .i64 7) := HG3.out.cell (a := ⟨w2.heap.size, 0, none⟩) (al_cell (al_cell (cell7_0 w2) _) _) (fun e => by have h1 : w2.heap.size = g := Option.some.inj e; omega)
                            refine ⟨_, n + 1, _, zss ++ [p3 un [] [7] z6], p' + 1 + 1, rfl, fin_row (BookM.al HB3.out _) hown5 hgrow5 hr0 hun (al_cell h7 _) (by omega) (by omega) hz6, by omega, by omega, (Src.alloc Hs3.out _).grown hgrow5 (fun r h => by cases h; omega), grown_new (grown_alloc (grown_trans (grown_drewN (grown_alloc (grown_alloc (grown_alloc Hg2.out _) _) _) 1) HG3.out) _) hgrow5 (fun r h => by cases h; omega)⟩
                          exact AllReadyH.nil
                        exact AllReadyH.nil
                      exact AllReadyH.nil
                    exact AllReadyH.nil
                  exact AllReadyH.nil
                exact AllReadyH.nil
              refine AllReadyH.cons (o := _) rfl (fun K hK => ?_) ?_
              · refine step_call _ rfl 69 _ _ rfl #[.pointer (some ⟨g, 0, none⟩), .int .i64 3] rfl (HENT.out _ _) (pick3_any L g (p' + 1) b0 (.slice A6 n6 c6) _ (Src.drew1 (Src.alloc (Src.alloc Hs2.out _) _)) (by omega) (HA1.out _ _) HNG.out) ?_
                rintro v3 w3 ⟨un, ⟨hun, hu0, hu1⟩, rfl, Hs3, HG3, hp0, hp1, hp2, hc3, HD0, HD1, HD2, HD3⟩
                have hd0 : b0 < w3.heap.size := block_lt_of_cell hc3
                have hd1 : b0 < w3.heap.size + 1 := by omega
                have hd2 : b0 < w3.heap.size + 1 + 1 := by omega
                have HB3 : Hid (BookM w3 w.heap.size (.slice (some ⟨b0, 0, none⟩) n c2) n rs zss) := ((HB2.out.al _).al _).dr.grown HG3.out HGR.out
                have hz3 : w2.heap.size ≤ w3.heap.size := by have := HG3.out.size; simp at this; omega
                refine hK.out _ _ ?_ (fun hHeld => ?_)
                · first | exact hc0 | exact HA0.out _ | exact HA1.out _ _ | exact HA2.out _ _ _ | exact hc3 | exact HD0.out _ | exact HD1.out _ _ | exact HD2.out _ _ _ | exact HD3.out _ _ _ _ | exact hc5
                clear hK K
                try simp only [Act.put, List.setIfInBounds_toArray, List.set_cons_zero, List.set_cons_succ]
                refine wpAnyH_ready (rs := [6]) (by kernel_rfl) (by simp) ?_
                refine AllReadyH.cons (o := _) rfl (fun K hK => ?_) ?_
                · go_simp
                  refine hK.out _ _ ?_ (fun hHeld => ?_)
                  · first | exact hc0 | exact HA0.out _ | exact HA1.out _ _ | exact HA2.out _ _ _ | exact hc3 | exact HD0.out _ | exact HD1.out _ _ | exact HD2.out _ _ _ | exact HD3.out _ _ _ _ | exact hc5
                  clear hK K
                  try simp only [Act.put, List.setIfInBounds_toArray, List.set_cons_zero, List.set_cons_succ]
                  refine wpAnyH_ready (rs := [9]) (by kernel_rfl) (by simp) ?_
                  refine AllReadyH.cons (o := _) rfl (fun K hK => ?_) ?_
                  · go_simp
                    refine hK.out _ _ ?_ (fun hHeld => ?_)
                    · first | exact hc0 | exact HA0.out _ | exact HA1.out _ _ | exact HA2.out _ _ _ | exact hc3 | exact HD0.out _ | exact HD1.out _ _ | exact HD2.out _ _ _ | exact HD3.out _ _ _ _ | exact hc5
                    clear hK K
                    try simp only [Act.put, List.setIfInBounds_toArray, List.set_cons_zero, List.set_cons_succ]
                    refine wpAnyH_ready (rs := [10]) (by kernel_rfl) (by simp) ?_
                    refine AllReadyH.cons (o := _) rfl (fun K hK => ?_) ?_
                    · go_simp
                      refine hK.out _ _ ?_ (fun hHeld => ?_)
                      · first | exact hc0 | exact HA0.out _ | exact HA1.out _ _ | exact HA2.out _ _ _ | exact hc3 | exact HD0.out _ | exact HD1.out _ _ | exact HD2.out _ _ _ | exact HD3.out _ _ _ _ | exact hc5
                      clear hK K
                      try simp only [Act.put, List.setIfInBounds_toArray, List.set_cons_zero, List.set_cons_succ]
                      refine wpAnyH_ready (rs := [11]) (by kernel_rfl) (by simp) ?_
                      refine AllReadyH.cons (o := _) rfl (fun K hK => ?_) ?_
                      · go_simp
                        refine hK.out _ _ ?_ (fun hHeld => ?_)
                        · first | exact hc0 | exact HA0.out _ | exact HA1.out _ _ | exact HA2.out _ _ _ | exact hc3 | exact HD0.out _ | exact HD1.out _ _ | exact HD2.out _ _ _ | exact HD3.out _ _ _ _ | exact hc5
                        clear hK K
                        try simp only [Act.put, List.setIfInBounds_toArray, List.set_cons_zero, List.set_cons_succ]
                        refine wpAnyH_ready (rs := [12]) (by kernel_rfl) (by simp) ?_
                        refine AllReadyH.cons (o := _) rfl (fun K hK => ?_) ?_
                        · refine step_append_keep _ rfl _ _ _ rfl w.heap.size 23 i0 (.slice none 0 0) 1 24 Try.underlying42 hi hz0 hz1 hz2 rfl Nat.zero_lt_one b0 n c2 rs rfl ?_ ⟨_, 0, none⟩ 1 1 [?_] rfl rfl ?_ ?_ Nat.zero_lt_one ?_ ?_ ?_ ?_
                          exact (World.ownsRow.alloc (World.ownsRow.alloc HB3.out.out _) _)
                          rotate_left
                          exact cell_new1 _ _ _ _
                          exact one_cell _ rfl
                          unfold maxLen; omega
                          omega
                          simp <;> omega
                          intro g5 cap5 w5 hown5 hgrow5 hat5 hlt5 hold5
                          have hc5 := hold5 0 _ hr0
                          refine hK.out _ _ ?_ (fun hHeld => ?_)
                          · first | exact hc0 | exact HA0.out _ | exact HA1.out _ _ | exact HA2.out _ _ _ | exact hc3 | exact HD0.out _ | exact HD1.out _ _ | exact HD2.out _ _ _ | exact HD3.out _ _ _ _ | exact hc5
                          clear hK K
                          try simp only [Act.put, List.setIfInBounds_toArray, List.set_cons_zero, List.set_cons_succ]
                          refine wpAnyH_ready (rs := [13]) (by kernel_rfl) (by simp) ?_
                          refine AllReadyH.cons (o := _) rfl (fun K hK => ?_) ?_
                          · go_simp
                            refine hK.out _ _ ?_ (fun hHeld => ?_)
                            · first | exact hc0 | exact HA0.out _ | exact HA1.out _ _ | exact HA2.out _ _ _ | exact hc3 | exact HD0.out _ | exact HD1.out _ _ | exact HD2.out _ _ _ | exact HD3.out _ _ _ _ | exact hc5
                            clear hK K
                            try simp only [Act.put, List.setIfInBounds_toArray, List.set_cons_zero, List.set_cons_succ]
                            refine wpAnyH_done (by kernel_rfl) ?_ _
                            go_wp2_with fail
                            go_ret
                            have h7 : w3.cell? ⟨w2.heap.size, 0, none⟩ = some (.int .i64 7) := HG3.out.cell (a := ⟨w2.heap.size, 0, none⟩) (al_cell (cell7_0 w2) _) (fun e => by have h1 : w2.heap.size = g := Option.some.inj e; omega)
                            refine ⟨_, n + 1, _, zss ++ [p3 un [] [7] z6], p' + 1 + 1, rfl, fin_row (BookM.al (BookM.al HB3.out _) _) hown5 hgrow5 hr0 hun (al_cell (al_cell h7 _) _) (by omega) (by omega) hz6, by omega, by omega, (Src.alloc (Src.alloc Hs3.out _) _).grown hgrow5 (fun r h => by cases h; omega), grown_new (grown_alloc (grown_alloc (grown_trans (grown_drewN (grown_alloc (grown_alloc Hg2.out _) _) 1) HG3.out) _) _) hgrow5 (fun r h => by cases h; omega)⟩
                          exact AllReadyH.nil
                        exact AllReadyH.nil
                      exact AllReadyH.nil
                    exact AllReadyH.nil
                  exact AllReadyH.nil
                exact AllReadyH.nil
              exact AllReadyH.nil
            refine AllReadyH.cons (o := _) rfl (fun K hK => ?_) ?_
            · refine step_call _ rfl 69 _ _ rfl #[.pointer (some ⟨g, 0, none⟩), .int .i64 3] rfl (HENT.out _ _) (pick3_any L g (p' + 1) b0 (.slice A6 n6 c6) _ (Src.drew1 (Src.alloc Hs2.out _)) (by omega) (HA0.out _) HNG.out) ?_
              rintro v3 w3 ⟨un, ⟨hun, hu0, hu1⟩, rfl, Hs3, HG3, hp0, hp1, hp2, hc3, HD0, HD1, HD2, HD3⟩
              have hd0 : b0 < w3.heap.size := block_lt_of_cell hc3
              have hd1 : b0 < w3.heap.size + 1 := by omega
              have hd2 : b0 < w3.heap.size + 1 + 1 := by omega
              have HB3 : Hid (BookM w3 w.heap.size (.slice (some ⟨b0, 0, none⟩) n c2) n rs zss) := (HB2.out.al _).dr.grown HG3.out HGR.out
              have hz3 : w2.heap.size ≤ w3.heap.size := by have := HG3.out.size; simp at this; omega
              refine hK.out _ _ ?_ (fun hHeld => ?_)
              · first | exact hc0 | exact HA0.out _ | exact HA1.out _ _ | exact HA2.out _ _ _ | exact hc3 | exact HD0.out _ | exact HD1.out _ _ | exact HD2.out _ _ _ | exact HD3.out _ _ _ _ | exact hc5
              clear hK K
              try simp only [Act.put, List.setIfInBounds_toArray, List.set_cons_zero, List.set_cons_succ]
              refine wpAnyH_ready (rs := [1]) (by kernel_rfl) (by simp) ?_
              refine AllReadyH.cons (o := _) rfl (fun K hK => ?_) ?_
              · go_simp
                refine hK.out _ _ ?_ (fun hHeld => ?_)
                · first | exact hc0 | exact HA0.out _ | exact HA1.out _ _ | exact HA2.out _ _ _ | exact hc3 | exact HD0.out _ | exact HD1.out _ _ | exact HD2.out _ _ _ | exact HD3.out _ _ _ _ | exact hc5
                clear hK K
                try simp only [Act.put, List.setIfInBounds_toArray, List.set_cons_zero, List.set_cons_succ]
                refine wpAnyH_ready (rs := [6]) (by kernel_rfl) (by simp) ?_
                refine AllReadyH.cons (o := _) rfl (fun K hK => ?_) ?_
                · go_simp
                  refine hK.out _ _ ?_ (fun hHeld => ?_)
                  · first | exact hc0 | exact HA0.out _ | exact HA1.out _ _ | exact HA2.out _ _ _ | exact hc3 | exact HD0.out _ | exact HD1.out _ _ | exact HD2.out _ _ _ | exact HD3.out _ _ _ _ | exact hc5
                  clear hK K
                  try simp only [Act.put, List.setIfInBounds_toArray, List.set_cons_zero, List.set_cons_succ]
                  refine wpAnyH_ready (rs := [9]) (by kernel_rfl) (by simp) ?_
                  refine AllReadyH.cons (o := _) rfl (fun K hK => ?_) ?_
                  · go_simp
                    refine hK.out _ _ ?_ (fun hHeld => ?_)
                    · first | exact hc0 | exact HA0.out _ | exact HA1.out _ _ | exact HA2.out _ _ _ | exact hc3 | exact HD0.out _ | exact HD1.out _ _ | exact HD2.out _ _ _ | exact HD3.out _ _ _ _ | exact hc5
                    clear hK K
                    try simp only [Act.put, List.setIfInBounds_toArray, List.set_cons_zero, List.set_cons_succ]
                    refine wpAnyH_ready (rs := [10]) (by kernel_rfl) (by simp) ?_
                    refine AllReadyH.cons (o := _) rfl (fun K hK => ?_) ?_
                    · go_simp
                      refine hK.out _ _ ?_ (fun hHeld => ?_)
                      · first | exact hc0 | exact HA0.out _ | exact HA1.out _ _ | exact HA2.out _ _ _ | exact hc3 | exact HD0.out _ | exact HD1.out _ _ | exact HD2.out _ _ _ | exact HD3.out _ _ _ _ | exact hc5
                      clear hK K
                      try simp only [Act.put, List.setIfInBounds_toArray, List.set_cons_zero, List.set_cons_succ]
                      refine wpAnyH_ready (rs := [11]) (by kernel_rfl) (by simp) ?_
                      refine AllReadyH.cons (o := _) rfl (fun K hK => ?_) ?_
                      · go_simp
                        refine hK.out _ _ ?_ (fun hHeld => ?_)
                        · first | exact hc0 | exact HA0.out _ | exact HA1.out _ _ | exact HA2.out _ _ _ | exact hc3 | exact HD0.out _ | exact HD1.out _ _ | exact HD2.out _ _ _ | exact HD3.out _ _ _ _ | exact hc5
                        clear hK K
                        try simp only [Act.put, List.setIfInBounds_toArray, List.set_cons_zero, List.set_cons_succ]
                        refine wpAnyH_ready (rs := [12]) (by kernel_rfl) (by simp) ?_
                        refine AllReadyH.cons (o := _) rfl (fun K hK => ?_) ?_
                        · refine step_append_keep _ rfl _ _ _ rfl w.heap.size 23 i0 (.slice none 0 0) 1 24 Try.underlying42 hi hz0 hz1 hz2 rfl Nat.zero_lt_one b0 n c2 rs rfl ?_ ⟨_, 0, none⟩ 1 1 [?_] rfl rfl ?_ ?_ Nat.zero_lt_one ?_ ?_ ?_ ?_
                          exact (World.ownsRow.alloc (World.ownsRow.alloc (World.ownsRow.alloc HB3.out.out _) _) _)
                          rotate_left
                          exact cell_new2 _ _ _ _ _
                          exact one_cell _ rfl
                          unfold maxLen; omega
                          omega
                          simp <;> omega
                          intro g5 cap5 w5 hown5 hgrow5 hat5 hlt5 hold5
                          have hc5 := hold5 0 _ hr0
                          refine hK.out _ _ ?_ (fun hHeld => ?_)
                          · first | exact hc0 | exact HA0.out _ | exact HA1.out _ _ | exact HA2.out _ _ _ | exact hc3 | exact HD0.out _ | exact HD1.out _ _ | exact HD2.out _ _ _ | exact HD3.out _ _ _ _ | exact hc5
                          clear hK K
                          try simp only [Act.put, List.setIfInBounds_toArray, List.set_cons_zero, List.set_cons_succ]
                          refine wpAnyH_ready (rs := [13]) (by kernel_rfl) (by simp) ?_
                          refine AllReadyH.cons (o := _) rfl (fun K hK => ?_) ?_
                          · go_simp
                            refine hK.out _ _ ?_ (fun hHeld => ?_)
                            · first | exact hc0 | exact HA0.out _ | exact HA1.out _ _ | exact HA2.out _ _ _ | exact hc3 | exact HD0.out _ | exact HD1.out _ _ | exact HD2.out _ _ _ | exact HD3.out _ _ _ _ | exact hc5
                            clear hK K
                            try simp only [Act.put, List.setIfInBounds_toArray, List.set_cons_zero, List.set_cons_succ]
                            refine wpAnyH_done (by kernel_rfl) ?_ _
                            go_wp2_with fail
                            go_ret
                            have h7 : w3.cell? ⟨w2.heap.size, 0, none⟩ = some (.int .i64 7) := HG3.out.cell (a := ⟨w2.heap.size, 0, none⟩) (cell7_0 w2) (fun e => by have h1 : w2.heap.size = g := Option.some.inj e; omega)
                            refine ⟨_, n + 1, _, zss ++ [p3 un [] [7] z6], p' + 1 + 1, rfl, fin_row (BookM.al (BookM.al (BookM.al HB3.out _) _) _) hown5 hgrow5 hr0 hun (al_cell (al_cell (al_cell h7 _) _) _) (by omega) (by omega) hz6, by omega, by omega, (Src.alloc (Src.alloc (Src.alloc Hs3.out _) _) _).grown hgrow5 (fun r h => by cases h; omega), grown_new (grown_alloc (grown_alloc (grown_alloc (grown_trans (grown_drewN (grown_alloc Hg2.out _) 1) HG3.out) _) _) _) hgrow5 (fun r h => by cases h; omega)⟩
                          exact AllReadyH.nil
                        exact AllReadyH.nil
                      exact AllReadyH.nil
                    exact AllReadyH.nil
                  exact AllReadyH.nil
                exact AllReadyH.nil
              exact AllReadyH.nil
            exact AllReadyH.nil
          refine AllReadyH.cons (o := _) rfl (fun K hK => ?_) ?_
          · refine step_call _ rfl 69 _ _ rfl #[.pointer (some ⟨g, 0, none⟩), .int .i64 3] rfl (HENT.out _ _) (pick3_any L g (p' + 1) b0 (.slice A6 n6 c6) _ (Src.drew1 Hs2.out) (by omega) hc0 HNG.out) ?_
            rintro v3 w3 ⟨un, ⟨hun, hu0, hu1⟩, rfl, Hs3, HG3, hp0, hp1, hp2, hc3, HD0, HD1, HD2, HD3⟩
            have hd0 : b0 < w3.heap.size := block_lt_of_cell hc3
            have hd1 : b0 < w3.heap.size + 1 := by omega
            have hd2 : b0 < w3.heap.size + 1 + 1 := by omega
            have HB3 : Hid (BookM w3 w.heap.size (.slice (some ⟨b0, 0, none⟩) n c2) n rs zss) := HB2.out.dr.grown HG3.out HGR.out
            have hz3 : w2.heap.size ≤ w3.heap.size := by have := HG3.out.size; simp at this; omega
            refine hK.out _ _ ?_ (fun hHeld => ?_)
            · first | exact hc0 | exact HA0.out _ | exact HA1.out _ _ | exact HA2.out _ _ _ | exact hc3 | exact HD0.out _ | exact HD1.out _ _ | exact HD2.out _ _ _ | exact HD3.out _ _ _ _ | exact hc5
            clear hK K
            try simp only [Act.put, List.setIfInBounds_toArray, List.set_cons_zero, List.set_cons_succ]
            refine wpAnyH_ready (rs := [1, 2]) (by kernel_rfl) (by simp) ?_
            refine AllReadyH.cons (o := _) rfl (fun K hK => ?_) ?_
            · go_simp
              refine hK.out _ _ ?_ (fun hHeld => ?_)
              · first | exact hc0 | exact HA0.out _ | exact HA1.out _ _ | exact HA2.out _ _ _ | exact hc3 | exact HD0.out _ | exact HD1.out _ _ | exact HD2.out _ _ _ | exact HD3.out _ _ _ _ | exact hc5
              clear hK K
              try simp only [Act.put, List.setIfInBounds_toArray, List.set_cons_zero, List.set_cons_succ]
              refine wpAnyH_ready (rs := [2]) (by kernel_rfl) (by simp) ?_
              refine AllReadyH.cons (o := _) rfl (fun K hK => ?_) ?_
              · go_simp
                refine hK.out _ _ ?_ (fun hHeld => ?_)
                · first | exact hc0 | exact HA0.out _ | exact HA1.out _ _ | exact HA2.out _ _ _ | exact hc3 | exact HD0.out _ | exact HD1.out _ _ | exact HD2.out _ _ _ | exact HD3.out _ _ _ _ | exact hc5
                clear hK K
                try simp only [Act.put, List.setIfInBounds_toArray, List.set_cons_zero, List.set_cons_succ]
                refine wpAnyH_ready (rs := [6]) (by kernel_rfl) (by simp) ?_
                refine AllReadyH.cons (o := _) rfl (fun K hK => ?_) ?_
                · go_simp
                  refine hK.out _ _ ?_ (fun hHeld => ?_)
                  · first | exact hc0 | exact HA0.out _ | exact HA1.out _ _ | exact HA2.out _ _ _ | exact hc3 | exact HD0.out _ | exact HD1.out _ _ | exact HD2.out _ _ _ | exact HD3.out _ _ _ _ | exact hc5
                  clear hK K
                  try simp only [Act.put, List.setIfInBounds_toArray, List.set_cons_zero, List.set_cons_succ]
                  refine wpAnyH_ready (rs := [9]) (by kernel_rfl) (by simp) ?_
                  refine AllReadyH.cons (o := _) rfl (fun K hK => ?_) ?_
                  · go_simp
                    refine hK.out _ _ ?_ (fun hHeld => ?_)
                    · first | exact hc0 | exact HA0.out _ | exact HA1.out _ _ | exact HA2.out _ _ _ | exact hc3 | exact HD0.out _ | exact HD1.out _ _ | exact HD2.out _ _ _ | exact HD3.out _ _ _ _ | exact hc5
                    clear hK K
                    try simp only [Act.put, List.setIfInBounds_toArray, List.set_cons_zero, List.set_cons_succ]
                    refine wpAnyH_ready (rs := [10]) (by kernel_rfl) (by simp) ?_
                    refine AllReadyH.cons (o := _) rfl (fun K hK => ?_) ?_
                    · go_simp
                      refine hK.out _ _ ?_ (fun hHeld => ?_)
                      · first | exact hc0 | exact HA0.out _ | exact HA1.out _ _ | exact HA2.out _ _ _ | exact hc3 | exact HD0.out _ | exact HD1.out _ _ | exact HD2.out _ _ _ | exact HD3.out _ _ _ _ | exact hc5
                      clear hK K
                      try simp only [Act.put, List.setIfInBounds_toArray, List.set_cons_zero, List.set_cons_succ]
                      refine wpAnyH_ready (rs := [11]) (by kernel_rfl) (by simp) ?_
                      refine AllReadyH.cons (o := _) rfl (fun K hK => ?_) ?_
                      · go_simp
                        refine hK.out _ _ ?_ (fun hHeld => ?_)
                        · first | exact hc0 | exact HA0.out _ | exact HA1.out _ _ | exact HA2.out _ _ _ | exact hc3 | exact HD0.out _ | exact HD1.out _ _ | exact HD2.out _ _ _ | exact HD3.out _ _ _ _ | exact hc5
                        clear hK K
                        try simp only [Act.put, List.setIfInBounds_toArray, List.set_cons_zero, List.set_cons_succ]
                        refine wpAnyH_ready (rs := [12]) (by kernel_rfl) (by simp) ?_
                        refine AllReadyH.cons (o := _) rfl (fun K hK => ?_) ?_
                        · refine step_append_keep _ rfl _ _ _ rfl w.heap.size 23 i0 (.slice none 0 0) 1 24 Try.underlying42 hi hz0 hz1 hz2 rfl Nat.zero_lt_one b0 n c2 rs rfl ?_ ⟨_, 0, none⟩ 1 1 [?_] rfl rfl ?_ ?_ Nat.zero_lt_one ?_ ?_ ?_ ?_
                          exact (World.ownsRow.alloc (World.ownsRow.alloc (World.ownsRow.alloc (World.ownsRow.alloc HB3.out.out _) _) _) _)
                          rotate_left
                          exact cell_new3 _ _ _ _ _ _
                          exact one_cell _ rfl
                          unfold maxLen; omega
                          omega
                          simp <;> omega
                          intro g5 cap5 w5 hown5 hgrow5 hat5 hlt5 hold5
                          have hc5 := hold5 0 _ hr0
                          refine hK.out _ _ ?_ (fun hHeld => ?_)
                          · first | exact hc0 | exact HA0.out _ | exact HA1.out _ _ | exact HA2.out _ _ _ | exact hc3 | exact HD0.out _ | exact HD1.out _ _ | exact HD2.out _ _ _ | exact HD3.out _ _ _ _ | exact hc5
                          clear hK K
                          try simp only [Act.put, List.setIfInBounds_toArray, List.set_cons_zero, List.set_cons_succ]
                          refine wpAnyH_ready (rs := [13]) (by kernel_rfl) (by simp) ?_
                          refine AllReadyH.cons (o := _) rfl (fun K hK => ?_) ?_
                          · go_simp
                            refine hK.out _ _ ?_ (fun hHeld => ?_)
                            · first | exact hc0 | exact HA0.out _ | exact HA1.out _ _ | exact HA2.out _ _ _ | exact hc3 | exact HD0.out _ | exact HD1.out _ _ | exact HD2.out _ _ _ | exact HD3.out _ _ _ _ | exact hc5
                            clear hK K
                            try simp only [Act.put, List.setIfInBounds_toArray, List.set_cons_zero, List.set_cons_succ]
                            refine wpAnyH_done (by kernel_rfl) ?_ _
                            go_wp2_with fail
                            go_ret
                            refine ⟨_, n + 1, _, zss ++ [p3 un [] [7] z6], p' + 1 + 1, rfl, fin_row (BookM.al (BookM.al (BookM.al (BookM.al HB3.out _) _) _) _) hown5 hgrow5 hr0 hun (al_cell (al_cell (cell7_1 w3 _) _) _) (by omega) (by omega) hz6, by omega, by omega, (Src.alloc (Src.alloc (Src.alloc (Src.alloc Hs3.out _) _) _) _).grown hgrow5 (fun r h => by cases h; omega), grown_new (grown_alloc (grown_alloc (grown_alloc (grown_alloc (grown_trans (grown_drewN Hg2.out 1) HG3.out) _) _) _) _) hgrow5 (fun r h => by cases h; omega)⟩
                          exact AllReadyH.nil
                        exact AllReadyH.nil
                      exact AllReadyH.nil
                    exact AllReadyH.nil
                  exact AllReadyH.nil
                exact AllReadyH.nil
              exact AllReadyH.nil
            refine AllReadyH.cons (o := _) rfl (fun K hK => ?_) ?_
            · go_simp
              refine hK.out _ _ ?_ (fun hHeld => ?_)
              · first | exact hc0 | exact HA0.out _ | exact HA1.out _ _ | exact HA2.out _ _ _ | exact hc3 | exact HD0.out _ | exact HD1.out _ _ | exact HD2.out _ _ _ | exact HD3.out _ _ _ _ | exact hc5
              clear hK K
              try simp only [Act.put, List.setIfInBounds_toArray, List.set_cons_zero, List.set_cons_succ]
              refine wpAnyH_ready (rs := [1]) (by kernel_rfl) (by simp) ?_
              refine AllReadyH.cons (o := _) rfl (fun K hK => ?_) ?_
              · go_simp
                refine hK.out _ _ ?_ (fun hHeld => ?_)
                · first | exact hc0 | exact HA0.out _ | exact HA1.out _ _ | exact HA2.out _ _ _ | exact hc3 | exact HD0.out _ | exact HD1.out _ _ | exact HD2.out _ _ _ | exact HD3.out _ _ _ _ | exact hc5
                clear hK K
                try simp only [Act.put, List.setIfInBounds_toArray, List.set_cons_zero, List.set_cons_succ]
                refine wpAnyH_ready (rs := [6]) (by kernel_rfl) (by simp) ?_
                refine AllReadyH.cons (o := _) rfl (fun K hK => ?_) ?_
                · go_simp
                  refine hK.out _ _ ?_ (fun hHeld => ?_)
                  · first | exact hc0 | exact HA0.out _ | exact HA1.out _ _ | exact HA2.out _ _ _ | exact hc3 | exact HD0.out _ | exact HD1.out _ _ | exact HD2.out _ _ _ | exact HD3.out _ _ _ _ | exact hc5
                  clear hK K
                  try simp only [Act.put, List.setIfInBounds_toArray, List.set_cons_zero, List.set_cons_succ]
                  refine wpAnyH_ready (rs := [9]) (by kernel_rfl) (by simp) ?_
                  refine AllReadyH.cons (o := _) rfl (fun K hK => ?_) ?_
                  · go_simp
                    refine hK.out _ _ ?_ (fun hHeld => ?_)
                    · first | exact hc0 | exact HA0.out _ | exact HA1.out _ _ | exact HA2.out _ _ _ | exact hc3 | exact HD0.out _ | exact HD1.out _ _ | exact HD2.out _ _ _ | exact HD3.out _ _ _ _ | exact hc5
                    clear hK K
                    try simp only [Act.put, List.setIfInBounds_toArray, List.set_cons_zero, List.set_cons_succ]
                    refine wpAnyH_ready (rs := [10]) (by kernel_rfl) (by simp) ?_
                    refine AllReadyH.cons (o := _) rfl (fun K hK => ?_) ?_
                    · go_simp
                      refine hK.out _ _ ?_ (fun hHeld => ?_)
                      · first | exact hc0 | exact HA0.out _ | exact HA1.out _ _ | exact HA2.out _ _ _ | exact hc3 | exact HD0.out _ | exact HD1.out _ _ | exact HD2.out _ _ _ | exact HD3.out _ _ _ _ | exact hc5
                      clear hK K
                      try simp only [Act.put, List.setIfInBounds_toArray, List.set_cons_zero, List.set_cons_succ]
                      refine wpAnyH_ready (rs := [11]) (by kernel_rfl) (by simp) ?_
                      refine AllReadyH.cons (o := _) rfl (fun K hK => ?_) ?_
                      · go_simp
                        refine hK.out _ _ ?_ (fun hHeld => ?_)
                        · first | exact hc0 | exact HA0.out _ | exact HA1.out _ _ | exact HA2.out _ _ _ | exact hc3 | exact HD0.out _ | exact HD1.out _ _ | exact HD2.out _ _ _ | exact HD3.out _ _ _ _ | exact hc5
                        clear hK K
                        try simp only [Act.put, List.setIfInBounds_toArray, List.set_cons_zero, List.set_cons_succ]
                        refine wpAnyH_ready (rs := [12]) (by kernel_rfl) (by simp) ?_
                        refine AllReadyH.cons (o := _) rfl (fun K hK => ?_) ?_
                        · refine step_append_keep _ rfl _ _ _ rfl w.heap.size 23 i0 (.slice none 0 0) 1 24 Try.underlying42 hi hz0 hz1 hz2 rfl Nat.zero_lt_one b0 n c2 rs rfl ?_ ⟨_, 0, none⟩ 1 1 [?_] rfl rfl ?_ ?_ Nat.zero_lt_one ?_ ?_ ?_ ?_
                          exact (World.ownsRow.alloc (World.ownsRow.alloc (World.ownsRow.alloc (World.ownsRow.alloc HB3.out.out _) _) _) _)
                          rotate_left
                          exact cell_new3 _ _ _ _ _ _
                          exact one_cell _ rfl
                          unfold maxLen; omega
                          omega
                          simp <;> omega
                          intro g5 cap5 w5 hown5 hgrow5 hat5 hlt5 hold5
                          have hc5 := hold5 0 _ hr0
                          refine hK.out _ _ ?_ (fun hHeld => ?_)
                          · first | exact hc0 | exact HA0.out _ | exact HA1.out _ _ | exact HA2.out _ _ _ | exact hc3 | exact HD0.out _ | exact HD1.out _ _ | exact HD2.out _ _ _ | exact HD3.out _ _ _ _ | exact hc5
                          clear hK K
                          try simp only [Act.put, List.setIfInBounds_toArray, List.set_cons_zero, List.set_cons_succ]
                          refine wpAnyH_ready (rs := [13]) (by kernel_rfl) (by simp) ?_
                          refine AllReadyH.cons (o := _) rfl (fun K hK => ?_) ?_
                          · go_simp
                            refine hK.out _ _ ?_ (fun hHeld => ?_)
                            · first | exact hc0 | exact HA0.out _ | exact HA1.out _ _ | exact HA2.out _ _ _ | exact hc3 | exact HD0.out _ | exact HD1.out _ _ | exact HD2.out _ _ _ | exact HD3.out _ _ _ _ | exact hc5
                            clear hK K
                            try simp only [Act.put, List.setIfInBounds_toArray, List.set_cons_zero, List.set_cons_succ]
                            refine wpAnyH_done (by kernel_rfl) ?_ _
                            go_wp2_with fail
                            go_ret
                            refine ⟨_, n + 1, _, zss ++ [p3 un [] [7] z6], p' + 1 + 1, rfl, fin_row (BookM.al (BookM.al (BookM.al (BookM.al HB3.out _) _) _) _) hown5 hgrow5 hr0 hun (al_cell (al_cell (al_cell (cell7_0 w3) _) _) _) (by omega) (by omega) hz6, by omega, by omega, (Src.alloc (Src.alloc (Src.alloc (Src.alloc Hs3.out _) _) _) _).grown hgrow5 (fun r h => by cases h; omega), grown_new (grown_alloc (grown_alloc (grown_alloc (grown_alloc (grown_trans (grown_drewN Hg2.out 1) HG3.out) _) _) _) _) hgrow5 (fun r h => by cases h; omega)⟩
                          exact AllReadyH.nil
                        exact AllReadyH.nil
                      exact AllReadyH.nil
                    exact AllReadyH.nil
                  exact AllReadyH.nil
                exact AllReadyH.nil
              exact AllReadyH.nil
            exact AllReadyH.nil
          exact AllReadyH.nil
          -- region 10 ends
        · have hb0 : (y == 0) = false := by simpa using h0
          clear h0
          go_wp2_with fail
          go_ret
          exact ⟨A2, n, c2, zss, p' + 1, rfl, HB2.out.toR, by omega, by omega, Hs2.out, Hg2.out⟩
end Go.Proofs.Ytpfgjkgjeejghaa
