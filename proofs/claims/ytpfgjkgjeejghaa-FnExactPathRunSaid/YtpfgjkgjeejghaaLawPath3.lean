/-
  The walk of the law FnExactPathClash: it returns true for every argument and leaves old memory as it was.
  Conditions: none.
-/
import Derived.Test.YtpfgjkgjeejghaaLawPath1
import Derived.Test.YtpfgjkgjeejghaaPath7
namespace Go.Proofs.Ytpfgjkgjeejghaa
open Go.RowKit
set_option linter.unusedVariables false
attribute [local go_sem ↓] Go.wp_at_zero Go.wp_at_succ

theorem Room2.chg {w w' : World} {b : Nat} {v0 v1 : Value} {S : Nat → Prop} (h : Room2 w b v0 v1) (hc : Chg S w w') (hn : ¬ S b) : Room2 w' b v0 v1 := by
  have hb := hc.block b h.lt hn
  obtain ⟨h0, h1, f0, f1⟩ := h
  exact ⟨(World.cell?_of_block (a := ⟨b, 0, none⟩) hb).trans h0, (World.cell?_of_block (a := ⟨b, 1, none⟩) hb).trans h1, (World.frozen?_of_block (a := ⟨b, 0, none⟩) hb).trans f0, (World.frozen?_of_block (a := ⟨b, 1, none⟩) hb).trans f1⟩
theorem OwnP.chg {w w' : World} {B : Nat} {G : Option Addr} {n c : Nat} {xs : List Int} {H : Option Addr} {m d : Nat} {ys : List Int} {S : Nat → Prop} (h : OwnP w B G n c xs H m d ys) (hc : Chg S w w') (h0 : ∀ g, (Value.slice G n c).ownBlock = some g → ¬ S g) (h1 : ∀ g, (Value.slice H m d).ownBlock = some g → ¬ S g) : OwnP w' B G n c xs H m d ys :=
  ⟨hc.own h.1 h0, hc.own h.2.1 h1, h.2.2⟩

/-- What the law of clashes holds on to: the two arguments, the two copies handed to the program, the reference's answer, the program's answer. -/
structure Cb (w : World) (P0 P1 Q0 Q1 : Value) (b1 b2 B1 B2 B3 : Nat) (G1 H1 G2 H2 : Option Addr) (n m n' m' : Nat) (W0 G0 : Value) (kw kg : Nat) (rs : List Int) (xs1 ys1 xs2 ys2 gs : List Int) (V : World) : Prop where
  bel : Below w.heap.size w V
  rp : Room2 V w.heap.size P0 P1
  rq : Room2 V (w.heap.size + 1) Q0 Q1
  r1 : Room2 V b1 (.slice G1 n n) (.slice H1 m m)
  r2 : Room2 V b2 (.slice G2 n' n') (.slice H2 m' m')
  o1 : OwnP V B1 G1 n n xs1 H1 m m ys1
  o2 : OwnP V B2 G2 n' n' xs2 H2 m' m' ys2
  ow : V.ownsRow w.heap.size 3 1 W0 kw (rs.map (Value.int .i64))
  og : V.ownsRow B3 3 1 G0 kg (gs.map (Value.int .i64))
  hw : ∀ g, W0.ownBlock = some g → g < B1
  hx1 : ∀ g, (Value.slice G1 n n).ownBlock = some g → g < b1
  hy1 : ∀ g, (Value.slice H1 m m).ownBlock = some g → g < b1
  hx2 : ∀ g, (Value.slice G2 n' n').ownBlock = some g → g < b2
  hy2 : ∀ g, (Value.slice H2 m' m').ownBlock = some g → g < b2
  n0 : w.heap.size + 1 < B1
  n1 : B1 ≤ b1
  n2 : b1 < B2
  n3 : B2 ≤ b2
  n4 : b2 < B3
section
variable {w : World} {P0 P1 Q0 Q1 : Value} {b1 b2 B1 B2 B3 : Nat} {G1 H1 G2 H2 : Option Addr} {n m n' m' : Nat} {W0 G0 : Value} {kw kg : Nat} {rs xs1 ys1 xs2 ys2 gs : List Int} {V V' : World}
theorem Cb.below (h : Cb w P0 P1 Q0 Q1 b1 b2 B1 B2 B3 G1 H1 G2 H2 n m n' m' W0 G0 kw kg rs xs1 ys1 xs2 ys2 gs V) (hb : Below V.heap.size V V') : Cb w P0 P1 Q0 Q1 b1 b2 B1 B2 B3 G1 H1 G2 H2 n m n' m' W0 G0 kw kg rs xs1 ys1 xs2 ys2 gs V' :=
  ⟨below_seq h.bel hb, h.rp.later hb, h.rq.later hb, h.r1.later hb, h.r2.later hb, h.o1.below hb, h.o2.below hb, own_belowAll h.ow hb, own_belowAll h.og hb, h.hw, h.hx1, h.hy1, h.hx2, h.hy2, h.n0, h.n1, h.n2, h.n3, h.n4⟩
theorem Cb.drewN (h : Cb w P0 P1 Q0 Q1 b1 b2 B1 B2 B3 G1 H1 G2 H2 n m n' m' W0 G0 kw kg rs xs1 ys1 xs2 ys2 gs V) (k : Nat) : Cb w P0 P1 Q0 Q1 b1 b2 B1 B2 B3 G1 H1 G2 H2 n m n' m' W0 G0 kw kg rs xs1 ys1 xs2 ys2 gs (V.drewN k) := h.below (below_of_drewN _ _ _)
theorem Cb.drew (h : Cb w P0 P1 Q0 Q1 b1 b2 B1 B2 B3 G1 H1 G2 H2 n m n' m' W0 G0 kw kg rs xs1 ys1 xs2 ys2 gs V) : Cb w P0 P1 Q0 Q1 b1 b2 B1 B2 B3 G1 H1 G2 H2 n m n' m' W0 G0 kw kg rs xs1 ys1 xs2 ys2 gs V.drew := h.below (Below.refl _ _).drew
theorem Cb.mark1 {xs3 ys3 : List Int} (h : Cb w P0 P1 Q0 Q1 b1 b2 B1 B2 B3 G1 H1 G2 H2 n m n' m' W0 G0 kw kg rs xs1 ys1 xs2 ys2 gs V) (hc : Chg (fun k => some k = (Value.slice G1 n n).ownBlock ∨ some k = (Value.slice H1 m m).ownBlock) V V') (ho : OwnP V' B1 G1 n n xs3 H1 m m ys3) :
    Cb w P0 P1 Q0 Q1 b1 b2 B1 B2 B3 G1 H1 G2 H2 n m n' m' W0 G0 kw kg rs xs3 ys3 xs2 ys2 gs V' := by
  have k0 := h.n0
  have k1 := h.n1
  have k2 := h.n2
  have k3 := h.n3
  have k4 := h.n4
  have lo : ∀ i, (some i = (Value.slice G1 n n).ownBlock ∨ some i = (Value.slice H1 m m).ownBlock) → B1 ≤ i ∧ i < b1 := by
    rintro i (e | e)
    · exact ⟨(h.o1.1.lt i e.symm).1, h.hx1 i e.symm⟩
    · exact ⟨(h.o1.2.1.lt i e.symm).1, h.hy1 i e.symm⟩
  have sz := h.bel.size
  exact ⟨Chg.on h.bel hc (fun i _ e => by have := lo i e; omega) h.bel.size, h.rp.chg hc (fun e => by have := lo _ e; omega), h.rq.chg hc (fun e => by have := lo _ e; omega), h.r1.chg hc (fun e => by have := lo _ e; omega), h.r2.chg hc (fun e => by have := lo _ e; omega), ho,
    h.o2.chg hc (fun g hg e => by have := lo _ e; have := (h.o2.1.lt g hg).1; omega) (fun g hg e => by have := lo _ e; have := (h.o2.2.1.lt g hg).1; omega),
    hc.own h.ow (fun g hg e => by have := lo _ e; have := h.hw g hg; omega), hc.own h.og (fun g hg e => by have := lo _ e; have := (h.og.lt g hg).1; omega),
    h.hw, h.hx1, h.hy1, h.hx2, h.hy2, h.n0, h.n1, h.n2, h.n3, h.n4⟩
theorem Cb.mark2 {xs3 ys3 : List Int} (h : Cb w P0 P1 Q0 Q1 b1 b2 B1 B2 B3 G1 H1 G2 H2 n m n' m' W0 G0 kw kg rs xs1 ys1 xs2 ys2 gs V) (hc : Chg (fun k => some k = (Value.slice G2 n' n').ownBlock ∨ some k = (Value.slice H2 m' m').ownBlock) V V') (ho : OwnP V' B2 G2 n' n' xs3 H2 m' m' ys3) :
    Cb w P0 P1 Q0 Q1 b1 b2 B1 B2 B3 G1 H1 G2 H2 n m n' m' W0 G0 kw kg rs xs1 ys1 xs3 ys3 gs V' := by
  have k0 := h.n0
  have k1 := h.n1
  have k2 := h.n2
  have k3 := h.n3
  have k4 := h.n4
  have lo : ∀ i, (some i = (Value.slice G2 n' n').ownBlock ∨ some i = (Value.slice H2 m' m').ownBlock) → B2 ≤ i ∧ i < b2 := by
    rintro i (e | e)
    · exact ⟨(h.o2.1.lt i e.symm).1, h.hx2 i e.symm⟩
    · exact ⟨(h.o2.2.1.lt i e.symm).1, h.hy2 i e.symm⟩
  exact ⟨Chg.on h.bel hc (fun i _ e => by have := lo i e; omega) h.bel.size, h.rp.chg hc (fun e => by have := lo _ e; omega), h.rq.chg hc (fun e => by have := lo _ e; omega), h.r1.chg hc (fun e => by have := lo _ e; omega), h.r2.chg hc (fun e => by have := lo _ e; omega),
    h.o1.chg hc (fun g hg e => by have := lo _ e; have := h.hx1 g hg; omega) (fun g hg e => by have := lo _ e; have := h.hy1 g hg; omega), ho,
    hc.own h.ow (fun g hg e => by have := lo _ e; have := h.hw g hg; omega), hc.own h.og (fun g hg e => by have := lo _ e; have := (h.og.lt g hg).1; omega),
    h.hw, h.hx1, h.hy1, h.hx2, h.hy2, h.n0, h.n1, h.n2, h.n3, h.n4⟩
theorem Cb.markg {gs3 : List Int} (h : Cb w P0 P1 Q0 Q1 b1 b2 B1 B2 B3 G1 H1 G2 H2 n m n' m' W0 G0 kw kg rs xs1 ys1 xs2 ys2 gs V) (hg0 : V.grownBy V' G0.ownBlock) (ho : V'.ownsRow B3 3 1 G0 kg (gs3.map (Value.int .i64))) :
    Cb w P0 P1 Q0 Q1 b1 b2 B1 B2 B3 G1 H1 G2 H2 n m n' m' W0 G0 kw kg rs xs1 ys1 xs2 ys2 gs3 V' := by
  have k0 := h.n0
  have k1 := h.n1
  have k2 := h.n2
  have k3 := h.n3
  have k4 := h.n4
  have hc := Chg.of_grown hg0
  have lo : ∀ i, some i = G0.ownBlock → B3 ≤ i := fun i e => (h.og.lt i e.symm).1
  exact ⟨Chg.on h.bel hc (fun i _ e => by have := lo i e; omega) h.bel.size, h.rp.chg hc (fun e => by have := lo _ e; omega), h.rq.chg hc (fun e => by have := lo _ e; omega), h.r1.chg hc (fun e => by have := lo _ e; omega), h.r2.chg hc (fun e => by have := lo _ e; omega),
    h.o1.chg hc (fun g hg e => by have := lo _ e; have := h.hx1 g hg; omega) (fun g hg e => by have := lo _ e; have := h.hy1 g hg; omega),
    h.o2.chg hc (fun g hg e => by have := lo _ e; have := h.hx2 g hg; omega) (fun g hg e => by have := lo _ e; have := h.hy2 g hg; omega),
    hc.own h.ow (fun g hg e => by have := lo _ e; have := h.hw g hg; omega), ho,
    h.hw, h.hx1, h.hy1, h.hx2, h.hy2, h.n0, h.n1, h.n2, h.n3, h.n4⟩
end

set_option maxRecDepth 100000 in
set_option maxHeartbeats 16000000 in
theorem FnExactPathClash_walk (w : World) (N : Int) (wN : (Lit.int .i64 N).wf = true) (A : Option Addr) (n c : Nat) (xs : List Int) (hx : RdI w A n xs) (hl : n ≤ c) (hc : c ≤ maxLen) (hwx : ∀ z ∈ xs, (Lit.int .i64 z).wf = true)
    (B : Option Addr) (m d : Nat) (ys : List Int) (hy : RdI w B m ys) (hm : m ≤ d) (hd : d ≤ maxLen) (hwy : ∀ z ∈ ys, (Lit.int .i64 z).wf = true)
    (A' : Option Addr) (n' c' : Nat) (xs' : List Int) (hx' : RdI w A' n' xs') (hl' : n' ≤ c') (hc' : c' ≤ maxLen) (hwx' : ∀ z ∈ xs', (Lit.int .i64 z).wf = true)
    (B' : Option Addr) (m' d' : Nat) (ys' : List Int) (hy' : RdI w B' m' ys') (hm' : m' ≤ d') (hd' : d' ≤ maxLen) (hwy' : ∀ z ∈ ys', (Lit.int .i64 z).wf = true) :
    Calls Try.prog 6 #[.int .i64 N, .agg #[.slice A n c, .slice B m d], .agg #[.slice A' n' c', .slice B' m' d']] w fun e w' => e = .returned (.bool true) ∧ Below w.heap.size w w' := by
  clear wN hwx hwy hwx' hwy'
  have HX := Lib.hid hx
  have HY := Lib.hid hy
  have HX' := Lib.hid hx'
  have HY' := Lib.hid hy'
  have HNM : Hid (n ≤ maxLen ∧ m ≤ maxLen ∧ n' ≤ maxLen ∧ m' ≤ maxLen) := ⟨by omega, by omega, by omega, by omega⟩
  have Hb0 : Hid (Below w.heap.size w ((w.alloc (.cells #[.slice A n c, .slice B m d] 25)).alloc (.cells #[.slice A' n' c', .slice B' m' d'] 25))) := ((Below.refl w.heap.size w).alloc (Nat.le_refl _) _).alloc (by simp) _
  have HP0 : Hid (Room2 ((w.alloc (.cells #[.slice A n c, .slice B m d] 25)).alloc (.cells #[.slice A' n' c', .slice B' m' d'] 25)) w.heap.size (.slice A n c) (.slice B m d)) := (room2_new _ _ _ _).alloc _
  have HQ0 : Hid (Room2 ((w.alloc (.cells #[.slice A n c, .slice B m d] 25)).alloc (.cells #[.slice A' n' c', .slice B' m' d'] 25)) (w.heap.size + 1) (.slice A' n' c') (.slice B' m' d')) := by
    have := room2_new (w.alloc (.cells #[.slice A n c, .slice B m d] 25)) (.slice A' n' c') (.slice B' m' d') 25; unfold Hid; simpa using this
  clear hx hy hx' hy' hl hc hm hd hl' hc' hm' hd'
  by_cases hbig : (n : Int) + m ≤ 1048576
  · by_cases hbig' : (n' : Int) + m' ≤ 1048576 - n - m
    · have hn : n ≤ 1048576 := by omega
      have hm : m ≤ 1048576 := by omega
      have hn' : n' ≤ 1048576 := by omega
      have hm' : m' ≤ 1048576 := by omega
      obtain ⟨rs, hrs⟩ : ∃ rs, Pt.clash N xs ys xs' ys' = rs := ⟨_, rfl⟩
      have HRS := Lib.hid hrs
      have HRL : Hid (rs.length ≤ 5) := by
        unfold Hid; rw [← hrs]; unfold Pt.clash
        split
        · rename_i h
          obtain ⟨q, e, _, h5, _⟩ := Pt.valid_parts h.1
          have := Pt.clashes_len xs ys xs' ys' N.toNat
          omega
        · simp
      clear hrs
      go_enter Try.func6, Try.ntmps6
      go_wp2_with fail
      refine (szPath_yes _ _ _ _ _ _ _ _ hbig (by omega)).mono ?_
      rintro e w1 ⟨rfl, hb1⟩
      have HP1 := Lib.hid (HP0.out.later hb1)
      have HQ1 := Lib.hid (HQ0.out.later hb1)
      have Hb1 := Lib.hid (below_seq Hb0.out hb1)
      clear hb1
      obtain ⟨q0, q1, _, _⟩ := HQ1.out
      go_wp2_with fail
      refine (szPath_yes _ _ _ _ _ _ _ _ hbig' (by omega)).mono ?_
      rintro e w2 ⟨rfl, hb2⟩
      have HP2 := Lib.hid (HP1.out.later hb2)
      have HQ2 := Lib.hid (HQ1.out.later hb2)
      have Hb2 := Lib.hid (below_seq Hb1.out hb2)
      clear hb2 q0 q1
      obtain ⟨s0, s1, s2, s3⟩ := Room2.two HP2.out HQ2.out
      go_wp2_with fail
      go_region_held3 (fun W => W.cell? ⟨w.heap.size, 0, none⟩ = some (.slice A n c) ∧ W.cell? ⟨w.heap.size, 1, none⟩ = some (.slice B m d) ∧ W.cell? ⟨w.heap.size + 1, 0, none⟩ = some (.slice A' n' c') ∧ W.cell? ⟨w.heap.size + 1, 1, none⟩ = some (.slice B' m' d'))
        (first | exact ⟨s0, s1, s2, s3⟩ | exact Room2.two HPx.out HQx.out | exact Room2.two HPy.out HQy.out | exact Room2.two HP3.out HQ3.out | go_keep)
        (first
          | (go_at_call_of 17 A; refine (toPath_any _ _ _ _ _ _ xs ys _ (by first | exact RdI.below HX.out Hb2.out.drew | exact RdI.below HX.out Hby.out) (by first | exact RdI.below HY.out Hb2.out.drew | exact RdI.below HY.out Hby.out) (by omega) (by omega)).mono ?_; rintro e wx ⟨Gx, Hx, rfl, hox, hbx⟩; have HPx : Hid (Room2 wx w.heap.size (.slice A n c) (.slice B m d)) := (by first | exact HP2.out.drew.later hbx | exact HPy.out.later hbx); have HQx : Hid (Room2 wx (w.heap.size + 1) (.slice A' n' c') (.slice B' m' d')) := (by first | exact HQ2.out.drew.later hbx | exact HQy.out.later hbx); have Hbx : Hid (Below w.heap.size w wx) := (by first | exact below_seq Hb2.out.drew hbx | exact below_seq Hby.out hbx); have Hox := Lib.hid hox; (try (have Hoyx := Lib.hid (Hoy.out.below hbx))); clear hox hbx)
          | (go_at_call_of 17 A'; refine (toPath_any _ _ _ _ _ _ xs' ys' _ (by first | exact RdI.below HX'.out Hb2.out.drew | exact RdI.below HX'.out Hbx.out) (by first | exact RdI.below HY'.out Hb2.out.drew | exact RdI.below HY'.out Hbx.out) (by omega) (by omega)).mono ?_; rintro e wy ⟨Gy, Hy, rfl, hoy, hby⟩; have HPy : Hid (Room2 wy w.heap.size (.slice A n c) (.slice B m d)) := (by first | exact HP2.out.drew.later hby | exact HPx.out.later hby); have HQy : Hid (Room2 wy (w.heap.size + 1) (.slice A' n' c') (.slice B' m' d')) := (by first | exact HQ2.out.drew.later hby | exact HQx.out.later hby); have Hby : Hid (Below w.heap.size w wy) := (by first | exact below_seq Hb2.out.drew hby | exact below_seq Hbx.out hby); have Hoy := Lib.hid hoy; (try (have Hoxy := Lib.hid (Hox.out.below hby))); clear hoy hby)
          | (go_at_call 22; refine (specPathClash_any _ _ _ _ _ _ xs ys _ _ _ _ _ _ xs' ys' _ _ (by first | exact Hoxy.out.rd0 | exact Hox.out.rd0) (by first | exact Hoxy.out.rd1 | exact Hox.out.rd1) (by first | exact Hoyx.out.rd0 | exact Hoy.out.rd0) (by first | exact Hoyx.out.rd1 | exact Hoy.out.rd1)).mono ?_; rintro e w3 ⟨W3, kw, cw, rfl, ho3, hb3⟩; have HP3 : Hid (Room2 w3 w.heap.size (.slice A n c) (.slice B m d)) := (by first | exact HPy.out.later hb3 | exact HPx.out.later hb3); have HQ3 : Hid (Room2 w3 (w.heap.size + 1) (.slice A' n' c') (.slice B' m' d')) := (by first | exact HQy.out.later hb3 | exact HQx.out.later hb3); have Hb3 : Hid (Below w.heap.size w w3) := (by first | exact below_seq Hby.out hb3 | exact below_seq Hbx.out hb3); have Ho3 : Hid (w3.ownsRow w.heap.size 3 1 (.slice W3 kw cw) kw (rs.map (Value.int .i64))) := (by rw [← HRS.out]; first | exact own_base ho3 Hby.out.size | exact own_base ho3 Hbx.out.size); clear ho3 hb3))
      all_goals clear s0 s1 s2 s3
      all_goals (
        obtain ⟨p0, p1, _, _⟩ := HP3.out
        have hkw : kw ≤ 5 := by have h1 := Ho3.out.1; simp at h1; have := HRL.out; omega
        go_wp2_with fail
        refine (toPath_any _ _ _ _ _ _ xs ys _ (RdI.below HX.out Hb3.out) (RdI.below HY.out Hb3.out) (by omega) (by omega)).mono ?_
        rintro e w4 ⟨G1, H1, rfl, ho4, hb4⟩
        have HP4 := Lib.hid (HP3.out.later hb4)
        have HQ4 := Lib.hid (HQ3.out.later hb4)
        have Hb4 := Lib.hid (below_seq Hb3.out hb4)
        have HW4 := Lib.hid (own_belowAll Ho3.out hb4)
        have Hsz4 : Hid (w.heap.size + 1 < w3.heap.size ∧ w3.heap.size ≤ w4.heap.size) := ⟨HQ3.out.lt, hb4.size⟩
        have HO4 := Lib.hid ho4
        clear ho4 hb4 p0 p1
        have HP5 := Lib.hid (HP4.out.alloc (.cells #[.slice G1 n n, .slice H1 m m] 28))
        have HQ5 := Lib.hid (HQ4.out.alloc (.cells #[.slice G1 n n, .slice H1 m m] 28))
        have HR5 : Hid (Room2 (w4.alloc (.cells #[.slice G1 n n, .slice H1 m m] 28)) w4.heap.size (.slice G1 n n) (.slice H1 m m)) := room2_new _ _ _ _
        have HO5 := Lib.hid (HO4.out.alloc (.cells #[.slice G1 n n, .slice H1 m m] 28))
        have Hb5 := Lib.hid (Hb4.out.alloc Hb4.out.size (.cells #[.slice G1 n n, .slice H1 m m] 28))
        have HW5 := Lib.hid (own_belowAll HW4.out ((Below.refl _ _).alloc (Nat.le_refl _) (.cells #[.slice G1 n n, .slice H1 m m] 28)))
        have Hsz5 : Hid ((w4.alloc (.cells #[.slice G1 n n, .slice H1 m m] 28)).heap.size = w4.heap.size + 1) := by unfold Hid; simp
        obtain ⟨q0, q1, _, _⟩ := HQ5.out
        go_wp2_with fail
        generalize w4.alloc (.cells #[.slice G1 n n, .slice H1 m m] 28) = w5 at HP5 HQ5 HR5 HO5 Hb5 HW5 Hsz5 q0 q1 ⊢
        refine (toPath_any _ _ _ _ _ _ xs' ys' _ (RdI.below HX'.out Hb5.out) (RdI.below HY'.out Hb5.out) (by omega) (by omega)).mono ?_
        rintro e w6 ⟨G2, H2, rfl, ho6, hb6⟩
        have HP6 := Lib.hid (HP5.out.later hb6)
        have HQ6 := Lib.hid (HQ5.out.later hb6)
        have HR6 := Lib.hid (HR5.out.later hb6)
        have HX6 := Lib.hid (HO5.out.below hb6)
        have Hb6 := Lib.hid (below_seq Hb5.out hb6)
        have HW6 := Lib.hid (own_belowAll HW5.out hb6)
        have Hsz6 : Hid (w5.heap.size ≤ w6.heap.size) := hb6.size
        have HO6 := Lib.hid ho6
        clear ho6 hb6 q0 q1
        have HP7 := Lib.hid (HP6.out.alloc (.cells #[.slice G2 n' n', .slice H2 m' m'] 28))
        have HQ7 := Lib.hid (HQ6.out.alloc (.cells #[.slice G2 n' n', .slice H2 m' m'] 28))
        have HR7 := Lib.hid (HR6.out.alloc (.cells #[.slice G2 n' n', .slice H2 m' m'] 28))
        have HS7 : Hid (Room2 (w6.alloc (.cells #[.slice G2 n' n', .slice H2 m' m'] 28)) w6.heap.size (.slice G2 n' n') (.slice H2 m' m')) := room2_new _ _ _ _
        have HX7 := Lib.hid (HX6.out.alloc (.cells #[.slice G2 n' n', .slice H2 m' m'] 28))
        have HO7 := Lib.hid (HO6.out.alloc (.cells #[.slice G2 n' n', .slice H2 m' m'] 28))
        have Hb7 := Lib.hid (Hb6.out.alloc Hb6.out.size (.cells #[.slice G2 n' n', .slice H2 m' m'] 28))
        have HW7 := Lib.hid (own_belowAll HW6.out ((Below.refl _ _).alloc (Nat.le_refl _) (.cells #[.slice G2 n' n', .slice H2 m' m'] 28)))
        have Hsz7 : Hid ((w6.alloc (.cells #[.slice G2 n' n', .slice H2 m' m'] 28)).heap.size = w6.heap.size + 1) := by unfold Hid; simp
        have Hcell7 := Lib.hid (Room2.two HR7.out HS7.out)
        obtain ⟨t0, t1, _, _⟩ := HR6.out
        have hlt6 : w4.heap.size < w6.heap.size := HR6.out.lt
        go_wp2_with fail
        generalize w6.alloc (.cells #[.slice G2 n' n', .slice H2 m' m'] 28) = w7 at HP7 HQ7 HR7 HS7 HX7 HO7 Hb7 HW7 Hsz7 Hcell7 ⊢
        clear t0 t1 hlt6
        refine (implPathClash_any _ _ _ _ _ _ xs ys _ _ _ _ _ _ xs' ys' _ _ HX7.out.rd0 HX7.out.rd1 HO7.out.rd0 HO7.out.rd1).mono ?_
        rintro e w8 ⟨G, kg, cg, rfl, ho8, hb8⟩
        rw [HRS.out] at ho8
        have hkg : kg ≤ 5 := by have h1 := ho8.1; simp at h1; have := HRL.out; omega
        have HC8 : Hid (Cb w (.slice A n c) (.slice B m d) (.slice A' n' c') (.slice B' m' d') w4.heap.size w6.heap.size w3.heap.size w5.heap.size w7.heap.size G1 H1 G2 H2 n m n' m' (.slice W3 kw cw) (.slice G kg cg) kw kg rs xs ys xs' ys' rs w8) := by
          have z4 := Hsz4.out
          have z5 := Hsz5.out
          have z6 := Hsz6.out
          have z7 := Hsz7.out
          exact ⟨below_seq Hb7.out hb8, HP7.out.later hb8, HQ7.out.later hb8, HR7.out.later hb8, HS7.out.later hb8, HX7.out.below hb8, HO7.out.below hb8, own_belowAll HW7.out hb8, ho8,
            fun g hg => (Ho3.out.lt g hg).2, fun g hg => (HO4.out.1.lt g hg).2, fun g hg => (HO4.out.2.1.lt g hg).2, fun g hg => (HO6.out.1.lt g hg).2, fun g hg => (HO6.out.2.1.lt g hg).2, z4.1, z4.2, by omega, z6, by omega⟩
        clear ho8 hb8 HP3 HQ3 Hb3 Ho3 HP4 HQ4 Hb4 HW4 HO4 HP5 HQ5 HR5 HO5 Hb5 HW5 HP6 HQ6 HR6 HX6 Hb6 HW6 HO6 HP7 HQ7 HR7 HS7 HX7 HO7 Hb7 HW7 Hcell7 Hsz4 Hsz5 Hsz6 Hsz7
        go_wp2_with fail
        refine (eqIntS_any _ _ _ _ _ _ rs rs _ (RdI.of_own HC8.out.og) (RdI.of_own HC8.out.ow) (by omega)).mono ?_
        rintro e w9 ⟨rfl, m9, rfl⟩
        rw [decide_eq_true (rfl : rs = rs)]
        have HC9 := Lib.hid (HC8.out.drewN m9)
        generalize w8.drewN m9 = w9 at HC9 ⊢
        clear HC8
        obtain ⟨s0, s1, s2, s3⟩ := Room2.two HC9.out.rp HC9.out.r1
        go_wp2_with fail
        go_region_held3 (fun W => W.cell? ⟨w.heap.size, 0, none⟩ = some (.slice A n c) ∧ W.cell? ⟨w.heap.size, 1, none⟩ = some (.slice B m d) ∧ W.cell? ⟨w4.heap.size, 0, none⟩ = some (.slice G1 n n) ∧ W.cell? ⟨w4.heap.size, 1, none⟩ = some (.slice H1 m m))
          (first | exact ⟨s0, s1, s2, s3⟩ | exact ⟨u0, u1, u2, u3⟩ | exact Room2.two HC11.out.rp HC11.out.r1 | go_keep)
          (first
            | (go_at_call 17; refine (toPath_any _ _ _ _ _ _ xs ys _ (RdI.below HX.out HC9.out.bel.drew) (RdI.below HY.out HC9.out.bel.drew) (by omega) (by omega)).mono ?_; rintro e w10 ⟨G10, H10, rfl, ho10, hb10⟩; have HC10 : Hid (Cb w (.slice A n c) (.slice B m d) (.slice A' n' c') (.slice B' m' d') w4.heap.size w6.heap.size w3.heap.size w5.heap.size w7.heap.size G1 H1 G2 H2 n m n' m' (.slice W3 kw cw) (.slice G kg cg) kw kg rs xs ys xs' ys' rs w10) := HC9.out.drew.below hb10; have HO10 := Lib.hid ho10; obtain ⟨u0, u1, u2, u3⟩ := Room2.two HC10.out.rp HC10.out.r1; clear ho10 hb10)
            | (go_at_call 19; refine (eqPath_same _ _ _ _ _ _ _ _ _ _ _ _ xs ys _ HC10.out.o1.rd0 HC10.out.o1.rd1 HO10.out.rd0 HO10.out.rd1 (by omega) (by omega)).mono ?_; rintro e w11 ⟨rfl, hb11⟩; have HC11 : Hid (Cb w (.slice A n c) (.slice B m d) (.slice A' n' c') (.slice B' m' d') w4.heap.size w6.heap.size w3.heap.size w5.heap.size w7.heap.size G1 H1 G2 H2 n m n' m' (.slice W3 kw cw) (.slice G kg cg) kw kg rs xs ys xs' ys' rs w11) := HC10.out.below hb11; clear hb11))
        all_goals clear s0 s1 s2 s3 u0 u1 u2 u3
        all_goals obtain ⟨s0, s1, s2, s3⟩ := Room2.two HC11.out.rq HC11.out.r2
        all_goals go_wp2_with fail
        all_goals go_region_held3 (fun W => W.cell? ⟨w.heap.size + 1, 0, none⟩ = some (.slice A' n' c') ∧ W.cell? ⟨w.heap.size + 1, 1, none⟩ = some (.slice B' m' d') ∧ W.cell? ⟨w6.heap.size, 0, none⟩ = some (.slice G2 n' n') ∧ W.cell? ⟨w6.heap.size, 1, none⟩ = some (.slice H2 m' m'))
          (first | exact ⟨s0, s1, s2, s3⟩ | exact ⟨u0, u1, u2, u3⟩ | exact Room2.two HC13.out.rq HC13.out.r2 | go_keep)
          (first
            | (go_at_call 17; refine (toPath_any _ _ _ _ _ _ xs' ys' _ (RdI.below HX'.out HC11.out.bel.drew) (RdI.below HY'.out HC11.out.bel.drew) (by omega) (by omega)).mono ?_; rintro e w12 ⟨G12, H12, rfl, ho12, hb12⟩; have HC12 : Hid (Cb w (.slice A n c) (.slice B m d) (.slice A' n' c') (.slice B' m' d') w4.heap.size w6.heap.size w3.heap.size w5.heap.size w7.heap.size G1 H1 G2 H2 n m n' m' (.slice W3 kw cw) (.slice G kg cg) kw kg rs xs ys xs' ys' rs w12) := HC11.out.drew.below hb12; have HO12 := Lib.hid ho12; obtain ⟨u0, u1, u2, u3⟩ := Room2.two HC12.out.rq HC12.out.r2; clear ho12 hb12)
            | (go_at_call 19; refine (eqPath_same _ _ _ _ _ _ _ _ _ _ _ _ xs' ys' _ HC12.out.o2.rd0 HC12.out.o2.rd1 HO12.out.rd0 HO12.out.rd1 (by omega) (by omega)).mono ?_; rintro e w13 ⟨rfl, hb13⟩; have HC13 : Hid (Cb w (.slice A n c) (.slice B m d) (.slice A' n' c') (.slice B' m' d') w4.heap.size w6.heap.size w3.heap.size w5.heap.size w7.heap.size G1 H1 G2 H2 n m n' m' (.slice W3 kw cw) (.slice G kg cg) kw kg rs xs ys xs' ys' rs w13) := HC12.out.below hb13; clear hb13))
        all_goals clear s0 s1 s2 s3 u0 u1 u2 u3
        all_goals obtain ⟨s0, s1, s2, s3⟩ := HC13.out.r1
        all_goals go_wp2_with fail
        all_goals refine (markPath_any _ _ _ _ _ _ xs ys _ _ _ HC13.out.o1 (by omega) (by omega) (by omega) (by omega)).mono ?_
        all_goals rintro e w14 ⟨rfl, ho14, hc14⟩
        all_goals have HC14 := Lib.hid (HC13.out.mark1 hc14 ho14)
        all_goals clear ho14 hc14 s0 s1 s2 s3 HC13 HC12 HC11 HC10 HC9 HO10 HO12
        all_goals obtain ⟨s0, s1, s2, s3⟩ := HC14.out.r2
        all_goals go_wp2_with fail
        all_goals refine (markPath_any _ _ _ _ _ _ xs' ys' _ _ _ HC14.out.o2 (by omega) (by omega) (by omega) (by omega)).mono ?_
        all_goals rintro e w15 ⟨rfl, ho15, hc15⟩
        all_goals have HC15 := Lib.hid (HC14.out.mark2 hc15 ho15)
        all_goals clear ho15 hc15 s0 s1 s2 s3 HC14
        all_goals go_wp2_with fail
        all_goals refine (eqIntS_any _ _ _ _ _ _ rs rs _ (RdI.of_own HC15.out.og) (RdI.of_own HC15.out.ow) (by omega)).mono ?_
        all_goals rintro e w16 ⟨rfl, m16, rfl⟩
        all_goals rw [decide_eq_true (rfl : rs = rs)]
        all_goals have HC16 := Lib.hid (HC15.out.drewN m16)
        all_goals generalize w15.drewN m16 = w16 at HC16 ⊢
        all_goals clear HC15
        all_goals go_wp2_with fail
        all_goals refine (markIntS_any _ _ _ rs _ _ _ HC16.out.og (by omega) (by omega) (by omega)).mono ?_
        all_goals rintro e w17 ⟨rfl, ho17, hg17⟩
        all_goals have HC17 := Lib.hid (HC16.out.markg hg17 ho17)
        all_goals clear ho17 hg17 HC16
        all_goals go_wp2_with fail
        all_goals refine (heldIntS_any _ _ _ _ _ (RdI.of_own HC17.out.og) (by omega) (by omega) (by omega)).mono ?_
        all_goals rintro e w18 ⟨rfl, rfl⟩
        all_goals obtain ⟨s0, s1, s2, s3⟩ := Room2.two HC17.out.rp HC17.out.rq
        all_goals obtain ⟨xs1, ys1, xs2, ys2, HC18⟩ : ∃ xs1 ys1 xs2 ys2, Hid (Cb w (.slice A n c) (.slice B m d) (.slice A' n' c') (.slice B' m' d') w4.heap.size w6.heap.size w3.heap.size w5.heap.size w7.heap.size G1 H1 G2 H2 n m n' m' (.slice W3 kw cw) (.slice G kg cg) kw kg rs xs1 ys1 xs2 ys2 (iota 1 kg) w17) := ⟨_, _, _, _, HC17⟩
        all_goals clear HC17
        all_goals go_wp2_with fail
        all_goals go_region_held3 (fun W => W.cell? ⟨w.heap.size, 0, none⟩ = some (.slice A n c) ∧ W.cell? ⟨w.heap.size, 1, none⟩ = some (.slice B m d) ∧ W.cell? ⟨w.heap.size + 1, 0, none⟩ = some (.slice A' n' c') ∧ W.cell? ⟨w.heap.size + 1, 1, none⟩ = some (.slice B' m' d'))
          (first | exact ⟨s0, s1, s2, s3⟩ | exact Room2.two HCx.out.rp HCx.out.rq | exact Room2.two HCy.out.rp HCy.out.rq | exact Room2.two HC20.out.rp HC20.out.rq | go_keep)
          (first
            | (go_at_call_of 17 A; refine (toPath_any _ _ _ _ _ _ xs ys _ (by first | exact RdI.below HX.out HC18.out.bel.drew | exact RdI.below HX.out HCy.out.bel) (by first | exact RdI.below HY.out HC18.out.bel.drew | exact RdI.below HY.out HCy.out.bel) (by omega) (by omega)).mono ?_; rintro e w19 ⟨G19, H19, rfl, hox, hbx⟩; have HCx : Hid (Cb w (.slice A n c) (.slice B m d) (.slice A' n' c') (.slice B' m' d') w4.heap.size w6.heap.size w3.heap.size w5.heap.size w7.heap.size G1 H1 G2 H2 n m n' m' (.slice W3 kw cw) (.slice G kg cg) kw kg rs xs1 ys1 xs2 ys2 (iota 1 kg) w19) := (by first | exact HC18.out.drew.below hbx | exact HCy.out.below hbx); have Hpx := Lib.hid hox; (try (have Hpyx := Lib.hid (Hpy.out.below hbx))); clear hox hbx)
            | (go_at_call_of 17 A'; refine (toPath_any _ _ _ _ _ _ xs' ys' _ (by first | exact RdI.below HX'.out HC18.out.bel.drew | exact RdI.below HX'.out HCx.out.bel) (by first | exact RdI.below HY'.out HC18.out.bel.drew | exact RdI.below HY'.out HCx.out.bel) (by omega) (by omega)).mono ?_; rintro e w20 ⟨G20, H20, rfl, hoy, hby⟩; have HCy : Hid (Cb w (.slice A n c) (.slice B m d) (.slice A' n' c') (.slice B' m' d') w4.heap.size w6.heap.size w3.heap.size w5.heap.size w7.heap.size G1 H1 G2 H2 n m n' m' (.slice W3 kw cw) (.slice G kg cg) kw kg rs xs1 ys1 xs2 ys2 (iota 1 kg) w20) := (by first | exact HC18.out.drew.below hby | exact HCx.out.below hby); have Hpy := Lib.hid hoy; (try (have Hpxy := Lib.hid (Hpx.out.below hby))); clear hoy hby)
            | (go_at_call 23; refine (implPathClash_any _ _ _ _ _ _ xs ys _ _ _ _ _ _ xs' ys' _ _ (by first | exact Hpxy.out.rd0 | exact Hpx.out.rd0) (by first | exact Hpxy.out.rd1 | exact Hpx.out.rd1) (by first | exact Hpyx.out.rd0 | exact Hpy.out.rd0) (by first | exact Hpyx.out.rd1 | exact Hpy.out.rd1)).mono ?_; rintro e w21 ⟨E, ke, ce, rfl, ho21, hb21⟩; have HC20 : Hid (Cb w (.slice A n c) (.slice B m d) (.slice A' n' c') (.slice B' m' d') w4.heap.size w6.heap.size w3.heap.size w5.heap.size w7.heap.size G1 H1 G2 H2 n m n' m' (.slice W3 kw cw) (.slice G kg cg) kw kg rs xs1 ys1 xs2 ys2 (iota 1 kg) w21) := (by first | exact HCy.out.below hb21 | exact HCx.out.below hb21); have Ho21 : Hid (w21.ownsRow w.heap.size 3 1 (.slice E ke ce) ke (rs.map (Value.int .i64))) := (by rw [← HRS.out]; first | exact own_base ho21 HCy.out.bel.size | exact own_base ho21 HCx.out.bel.size); clear ho21 hb21))
        all_goals clear s0 s1 s2 s3
        all_goals have hke : ke ≤ 5 := (by have h1 := Ho21.out.1; simp at h1; have := HRL.out; omega)
        all_goals go_wp2_with fail
        all_goals refine (eqIntS_any _ _ _ _ _ _ rs rs _ (RdI.of_own Ho21.out) (RdI.of_own HC20.out.ow) (by omega)).mono ?_
        all_goals rintro e w22 ⟨rfl, m22, rfl⟩
        all_goals rw [decide_eq_true (rfl : rs = rs)]
        all_goals have HC22 := Lib.hid (HC20.out.drewN m22)
        all_goals generalize w21.drewN m22 = w22 at HC22 ⊢
        all_goals go_wp2_with fail
        all_goals refine (heldIntS_any _ _ _ _ _ (RdI.of_own HC22.out.og) (by omega) (by omega) (by omega)).mono ?_
        all_goals rintro e w23 ⟨rfl, rfl⟩
        all_goals go_wp2_with fail
        all_goals go_ret
        all_goals exact ⟨rfl, HC22.out.bel⟩)
    · go_enter Try.func6, Try.ntmps6
      go_wp2_with fail
      refine (szPath_yes _ _ _ _ _ _ _ _ hbig (by omega)).mono ?_
      rintro e w1 ⟨rfl, hb1⟩
      have HQ1 := Lib.hid (HQ0.out.later hb1)
      have Hb1 := Lib.hid (below_seq Hb0.out hb1)
      clear hb1
      obtain ⟨q0, q1, _, _⟩ := HQ1.out
      go_wp2_with fail
      refine (szPath_no _ _ _ _ _ _ _ _ (by omega) (by omega) (by omega) HNM.out.2.2.1 HNM.out.2.2.2).mono ?_
      rintro e w2 ⟨rfl, hb2⟩
      have Hb2 := Lib.hid (below_seq Hb1.out hb2)
      clear hb2
      go_wp2_with fail
      go_ret
      exact ⟨rfl, Hb2.out⟩
  · go_enter Try.func6, Try.ntmps6
    go_wp2_with fail
    refine (szPath_no _ _ _ _ _ _ _ _ (by omega) (by omega) (by omega) HNM.out.1 HNM.out.2.1).mono ?_
    rintro e w1 ⟨rfl, hb1⟩
    have Hb1 := Lib.hid (below_seq Hb0.out hb1)
    clear hb1
    go_wp2_with fail
    go_ret
    exact ⟨rfl, Hb1.out⟩
end Go.Proofs.Ytpfgjkgjeejghaa
