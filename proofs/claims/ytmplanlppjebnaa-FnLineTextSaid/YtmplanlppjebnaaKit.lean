/-
  Words on memory that the walks of this seat share: a slice that reads as a list of values (Rd), of integers (RdI); what keeps it so; small plain lemmas.
  No condition: every lemma here is about any world.
-/
import Derived.WalkKit
import Derived.ProofKit
import Derived.Below
import Derived.Laws.OwnMore
import Derived.Lib.Hide
import Derived.Deep.Draws
import Derived.Deep.QuietTactic
import Derived.BigQuiet
import Derived.WalkSpells
import Derived.WalkLawsBesides
namespace Go.Proofs.Ytmplanlppjebnaa
open Go.RowKit
set_option linter.unusedVariables false

theorem ret_int {k : IntKind} {a b : Int} (h : a = b) : Ending.returned (.int k a) = .returned (.int k b) := by rw [h]
theorem ret_bool {a b : Bool} (h : a = b) : Ending.returned (.bool a) = .returned (.bool b) := by rw [h]

/-- The slice value '.slice A n c' holds the cells xs (one cell an element). -/
def Rd (w : World) (A : Option Addr) (n : Nat) (xs : List Value) : Prop :=
  xs.length = n ∧ (0 < n → ∃ b off, A = some ⟨b, off, none⟩ ∧ ∀ j u, xs[j]? = some u → w.cell? ⟨b, off + j, none⟩ = some u)

section
variable {w w' : World} {n : Nat} {A : Option Addr} {xs : List Value}
theorem Rd.len (h : Rd w A n xs) : xs.length = n := h.1
theorem Rd.none_ (w : World) (A : Option Addr) : Rd w A 0 [] := ⟨by simp, fun h => absurd h (by omega)⟩
theorem Rd.at_ {k : Nat} (h : Rd w A n xs) (hk : k < n) : ∃ b off u, A = some ⟨b, off, none⟩ ∧ xs[k]? = some u ∧ w.cell? ⟨b, off + k, none⟩ = some u := by
  obtain ⟨b, off, e, hc⟩ := h.2 (by omega)
  have hl : k < xs.length := by have := h.1; omega
  exact ⟨b, off, xs[k], e, List.getElem?_eq_getElem hl, hc k _ (List.getElem?_eq_getElem hl)⟩
theorem Rd.keep (h : Rd w A n xs) (hk : ∀ b off j u, 0 < n → A = some ⟨b, off, none⟩ → w.cell? ⟨b, off + j, none⟩ = some u → w'.cell? ⟨b, off + j, none⟩ = some u) : Rd w' A n xs :=
  ⟨h.1, fun hn => by
    obtain ⟨b, off, e, hc⟩ := h.2 hn
    exact ⟨b, off, e, fun j u hu => hk _ _ _ _ hn e (hc j u hu)⟩⟩
theorem Rd.below (h : Rd w A n xs) (hb : Below w.heap.size w w') : Rd w' A n xs :=
  h.keep fun _ _ _ _ _ _ hp => (hb.cell (block_lt_of_cell hp)).trans hp
theorem Rd.belowB {B : Nat} (h : Rd w A n xs) (hb : Below B w w') (hB : 0 < n → ∀ a, A = some a → a.block < B) : Rd w' A n xs :=
  h.keep fun b off j _ h0 e hp => (hb.cell (p := ⟨b, off + j, none⟩) (show b < B from hB h0 _ e)).trans hp
theorem Rd.drewN (h : Rd w A n xs) (k : Nat) : Rd (w.drewN k) A n xs := h
theorem Rd.drew (h : Rd w A n xs) : Rd w.drew A n xs := h
theorem Rd.alloc (h : Rd w A n xs) (o : Obj) : Rd (w.alloc o) A n xs :=
  h.keep fun _ _ _ _ _ _ hp => (World.cell?_alloc_lt w o _ (block_lt_of_cell hp)).trans hp
theorem Rd.far (h : Rd w A n xs) {p : Addr} (hp : 0 < n → ∀ a, A = some a → a.block ≠ p.block) (u : Value) : Rd (w.setCell p u) A n xs :=
  h.keep fun b off j _ h0 e hq => (World.cell?_setCell_other w p ⟨b, off + j, none⟩ u (fun e' => hp h0 _ e (by rw [e']))).trans hq
theorem Rd.grown {row : Option Nat} (h : Rd w A n xs) (hg : w.grownBy w' row) (hr : 0 < n → ∀ a, A = some a → some a.block ≠ row) : Rd w' A n xs :=
  h.keep fun b off j _ h0 e hq => hg.cell (a := ⟨b, off + j, none⟩) hq (show some b ≠ row from hr h0 _ e)
theorem Rd.of_own {base : Nat} {e : TypeId} {c : Nat} (h : w.ownsRow base e 1 (.slice A n c) n xs) : Rd w A n xs := by
  refine ⟨by simpa using h.1, fun hn => ?_⟩
  rcases h.2 with ⟨h', h0⟩ | ⟨g, cap, cur, h', _, hg, _, _, _, htake⟩
  · omega
  · simp only [Value.slice.injEq] at h'
    obtain ⟨rfl, _, rfl⟩ := h'
    refine ⟨g, 0, rfl, fun j u hu => ?_⟩
    rw [Nat.zero_add, cell_of_row w g j cur e (0, 0) hg]
    rw [← htake, List.getElem?_take] at hu
    split at hu
    · simpa using hu
    · cases hu
theorem Rd.take {k : Nat} (h : Rd w A n xs) (hk : k ≤ n) : Rd w A k (xs.take k) := by
  refine ⟨by rw [List.length_take, h.1]; omega, fun h0 => ?_⟩
  obtain ⟨b, off, e, hc⟩ := h.2 (by omega)
  refine ⟨b, off, e, fun j u hu => hc j u ?_⟩
  rw [List.getElem?_take] at hu
  split at hu
  · exact hu
  · cases hu
end

/-- The slice value '.slice A n c' holds the integers zs. -/
def RdI (w : World) (A : Option Addr) (n : Nat) (zs : List Int) : Prop := Rd w A n (zs.map (Value.int .i64))

section
variable {w w' : World} {n : Nat} {A : Option Addr} {zs : List Int}
theorem RdI.len (h : RdI w A n zs) : zs.length = n := by simpa using h.1
theorem RdI.at_ {k : Nat} (h : RdI w A n zs) (hk : k < n) : ∃ b off z, A = some ⟨b, off, none⟩ ∧ zs[k]? = some z ∧ w.cell? ⟨b, off + k, none⟩ = some (.int .i64 z) := by
  obtain ⟨b, off, u, e, hu, hc⟩ := Rd.at_ h hk
  rw [List.getElem?_map] at hu
  obtain ⟨z, hz, rfl⟩ := Option.map_eq_some_iff.1 hu
  exact ⟨b, off, z, e, hz, hc⟩
theorem RdI.below (h : RdI w A n zs) (hb : Below w.heap.size w w') : RdI w' A n zs := Rd.below h hb
theorem RdI.drewN (h : RdI w A n zs) (k : Nat) : RdI (w.drewN k) A n zs := h
theorem RdI.of_own {base : Nat} {e : TypeId} {c : Nat} (h : w.ownsRow base e 1 (.slice A n c) n (zs.map (Value.int .i64))) : RdI w A n zs := Rd.of_own h
theorem RdI.take {k : Nat} (h : RdI w A n zs) (hk : k ≤ n) : RdI w A k (zs.take k) := by
  have := Rd.take h hk
  rw [← List.map_take] at this
  exact this
end

theorem below_drewN {B : Nat} {a w : World} (h : Below B a w) (n : Nat) : Below B a (w.drewN n) := ⟨h.os, h.tape, h.output, h.size, h.block⟩
theorem below_of_drewN (B : Nat) (w : World) (n : Nat) : Below B w (w.drewN n) := below_drewN (Below.refl _ _) n
theorem below_seq {w w1 w2 : World} (h : Below w.heap.size w w1) (h2 : Below w1.heap.size w1 w2) : Below w.heap.size w w2 := h.trans (h2.mono h.size)
theorem below_seqD {w w1 : World} (h : Below w.heap.size w w1) (m : Nat) : Below w.heap.size w (w1.drewN m) := below_drewN h m
theorem ex_drew (w : World) (m n : Nat) : ∃ k, (w.drewN m).drewN n = w.drewN k := ⟨m + n, World.drewN_drewN _ _ _⟩
theorem own_drewN {w : World} {base : Nat} {e : TypeId} {size : Nat} {v : Value} {n : Nat} {xs : List Value} (h : w.ownsRow base e size v n xs) (k : Nat) : (w.drewN k).ownsRow base e size v n xs := h
theorem own_below {w w' : World} {B base : Nat} {e : TypeId} {size : Nat} {v : Value} {n : Nat} {xs : List Value} (h : w.ownsRow base e size v n xs) (hb : Below B w w') (hB : ∀ g, v.ownBlock = some g → g < B) : w'.ownsRow base e size v n xs := by
  refine ⟨h.1, ?_⟩
  rcases h.2 with hn | ⟨g, cap, cur, rfl, hbg, hgg, rest⟩
  · exact .inl hn
  · exact .inr ⟨g, cap, cur, rfl, hbg, (hb.block g (hB g rfl)).trans hgg, rest⟩
theorem own_belowAll {w w' : World} {base : Nat} {e : TypeId} {size : Nat} {v : Value} {n : Nat} {xs : List Value} (h : w.ownsRow base e size v n xs) (hb : Below w.heap.size w w') : w'.ownsRow base e size v n xs :=
  own_below h hb fun g hg => (h.lt g hg).2
theorem own_base {w : World} {base base' : Nat} {e : TypeId} {size : Nat} {v : Value} {n : Nat} {xs : List Value} (h : w.ownsRow base e size v n xs) (hb : base' ≤ base) : w.ownsRow base' e size v n xs := by
  refine ⟨h.1, ?_⟩
  rcases h.2 with hn | ⟨g, cap, cur, rfl, hbg, rest⟩
  · exact .inl hn
  · exact .inr ⟨g, cap, cur, rfl, Nat.le_trans hb hbg, rest⟩
theorem take_snoc {α : Type} {l : List α} {k : Nat} {z : α} (h : l[k]? = some z) : l.take (k + 1) = l.take k ++ [z] := by
  obtain ⟨hk, rfl⟩ := List.getElem?_eq_some_iff.1 h
  exact List.take_succ_eq_append_getElem hk

/-- The bytes of a list of small numbers, as a string. -/
def bstr (ns : List Int) : ByteArray := ⟨(ns.map fun n => UInt8.ofNat n.toNat).toArray⟩
theorem bstr_size (ns : List Int) : (bstr ns).size = ns.length := by simp [bstr, ByteArray.size]
theorem foldl_push (ns : List Int) : ∀ (r : ByteArray), ns.foldl (fun r n => r.push (UInt8.ofNat n.toNat)) r = ⟨r.data ++ (ns.map fun n => UInt8.ofNat n.toNat).toArray⟩ := by
  induction ns with
  | nil => intro r; simp
  | cons n ns ih =>
    intro r
    rw [List.foldl_cons, ih]
    simp [ByteArray.push]
theorem run_bytes_string {P : Program} (w : World) (src dst e : TypeId) (hs : P.underlying src = some (.slice e)) (he : P.underlying e = some (.int .u8)) (hd : P.underlying dst = some .string)
    {base g n c : Nat} {t : TypeId} (ns : List Int) (hown : w.ownsRow base t 1 (.slice (some ⟨g, 0, none⟩) n c) n (ns.map (Value.int .u8))) :
    (convert src dst (.slice (some ⟨g, 0, none⟩) n c)).run P w = .ok (.string (bstr ns)) w := by
  rw [run_convert_bytes_string w src dst e _ _ _ hs he hd]
  have hl : (ns.map (Value.int .u8)).length = n := by simpa using hown.1
  have h := run_loadCells_list (P := P) w ⟨g, 0, none⟩ (ns.map (Value.int .u8)) (hown.cells (g := g) rfl)
  rw [hl] at h
  rw [run_bytesToString w _ _ _ ns h, foldl_push]
  simp [bstr, ByteArray.empty, ByteArray.emptyWithCapacity]
  rfl
theorem all_false {α : Type} {l : List α} {p : α → Bool} {k : Nat} {z : α} (h : l[k]? = some z) (hz : p z = false) : l.all p = false := by
  rw [List.all_eq_false]
  exact ⟨z, List.mem_of_getElem? h, by simp [hz]⟩
theorem all_take {α : Type} {l : List α} {p : α → Bool} {k : Nat} {z : α} (h : l[k]? = some z) (hk : (l.take k).all p = true) (hz : p z = true) : (l.take (k + 1)).all p = true := by
  rw [take_snoc h, List.all_append, hk]
  simp [hz]
theorem cell_new (w : World) (v : Value) (t : TypeId) : ∀ j u, [v][j]? = some u → (w.alloc (.cells #[v] t)).cell? ((⟨w.heap.size, 0, none⟩ : Addr).add j) = some u := by
  intro j u hj
  match j, hj with
  | 0, hj => simp at hj; subst hj; simp [Addr.add]
theorem one_cell (v : Value) (h : v.oneCell' = true) : ∀ u ∈ [v], u.oneCell' = true := by
  intro u hu; simp at hu; subst hu; exact h
theorem own_form {w : World} {base : Nat} {e : TypeId} {size : Nat} {v : Value} {n : Nat} {xs : List Value} (h : w.ownsRow base e size v n xs) : ∃ A c, v = .slice A n c ∧ n ≤ c ∧ c ≤ maxLen ∧ ∀ g, (Value.slice A n c).ownBlock = some g → base ≤ g ∧ g < w.heap.size := by
  have hlt := h.lt
  rcases h.2 with ⟨rfl, rfl⟩ | ⟨g, cap, cur, rfl, hb, hg, h1, h2, _⟩
  · exact ⟨none, 0, rfl, Nat.le_refl _, Nat.zero_le _, hlt⟩
  · exact ⟨_, cap, rfl, h1, h2, hlt⟩
/-- A result (list, ok) in new memory. -/
def RetL (t : TypeId) (B : Nat) (zs : List Int) (ok : Bool) (w : World) (e : Ending) (w' : World) : Prop :=
  ∃ A n c, e = .returned (.tuple #[.slice A n c, .bool ok]) ∧ w'.ownsRow B t 1 (.slice A n c) n (zs.map (Value.int .i64)) ∧ Below w.heap.size w w'
/-- A result list in new memory. -/
def RetL1 (t : TypeId) (B : Nat) (zs : List Int) (w : World) (e : Ending) (w' : World) : Prop :=
  ∃ A n c, e = .returned (.slice A n c) ∧ w'.ownsRow B t 1 (.slice A n c) n (zs.map (Value.int .i64)) ∧ Below w.heap.size w w'
theorem own_kept {w w' : World} {base : Nat} {e : TypeId} {size : Nat} {v : Value} {n : Nat} {xs : List Value} {row : Option Nat} (h : w.ownsRow base e size v n xs) (hg : w.grownBy w' row) (hne : ∀ g r, v.ownBlock = some g → row = some r → g ≠ r) : w'.ownsRow base e size v n xs := by
  refine h.kept hg ?_
  cases hv : v.ownBlock with
  | none => exact .inl rfl
  | some g =>
    refine .inr ?_
    rintro rfl
    exact hne g g hv rfl rfl
theorem below_grown {w w1 w2 : World} {B : Nat} {row : Option Nat} (h : Below B w w1) (hg : w1.grownBy w2 row) (hB : B ≤ w1.heap.size) (hr : ∀ r, row = some r → B ≤ r) : Below B w w2 := h.grown hg hB hr
end Go.Proofs.Ytmplanlppjebnaa
