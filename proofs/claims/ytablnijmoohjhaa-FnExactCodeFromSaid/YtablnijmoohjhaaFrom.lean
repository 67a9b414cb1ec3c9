/-
  Contracts: l6Dec of one digit, CodeText (the reference's), CodeFrom of the reference and of the program.
  Conditions: lists of at most 2^40 numbers, texts of at most 2^20 bytes.
-/
import Derived.Test.YtablnijmoohjhaaCodes5
namespace Go.Proofs.Ytablnijmoohjhaa
open Go.RowKit
set_option linter.unusedVariables false

/-- A list of bytes as a string. -/
def tstr (l : List UInt8) : ByteArray := ⟨l.toArray⟩
theorem tstr_list (l : List UInt8) : (tstr l).toList = l := ByteArray.toList_mk l
theorem tstr_size (l : List UInt8) : (tstr l).size = l.length := by simp [tstr, ByteArray.size]
theorem tstr_append (a b : List UInt8) : tstr a ++ tstr b = tstr (a ++ b) := by
  apply ByteArray.ext
  simp [tstr]

namespace Cd
theorem txt_snoc : ∀ (zs : List Int) (z : Int), zs ≠ [] → txt (zs ++ [z]) = txt zs ++ [45, dig z]
  | [], _, h => absurd rfl h
  | [a], z, _ => rfl
  | a :: b :: r, z, _ => by
    have ih := txt_snoc (b :: r) z (by simp)
    show dig a :: 45 :: txt ((b :: r) ++ [z]) = dig a :: 45 :: txt (b :: r) ++ [45, dig z]
    rw [ih]; rfl
theorem txt_len (zs : List Int) : (txt zs).length ≤ 2 * zs.length := by
  match zs with
  | [] => simp [txt]
  | [a] => simp [txt]
  | a :: b :: r => have := txt_len (b :: r); simp only [txt, List.length_cons] at *; omega
theorem ev_at : ∀ (l : List UInt8) (j : Nat) (c : UInt8), l[2 * j]? = some c → (ev l)[j]? = some ((c.toNat : Int) - 48)
  | [], j, c, h => by simp at h
  | [a], j, c, h => by
    have hj : j = 0 := by
      rcases Nat.eq_zero_or_pos j with h0 | h0
      · exact h0
      · rw [List.getElem?_eq_none (by simp; omega)] at h; cases h
    subst hj
    simp at h
    subst h
    rfl
  | a :: b :: r, j, c, h => by
    cases j with
    | zero => simp at h; subst h; rfl
    | succ j =>
      rw [show 2 * (j + 1) = 2 * j + 1 + 1 from by omega, List.getElem?_cons_succ, List.getElem?_cons_succ] at h
      simp only [ev, List.getElem?_cons_succ]
      exact ev_at r j c h
theorem okFrom_iff : ∀ (l : List UInt8) (i : Nat), okFrom i l = true ↔ ∀ j c, l[j]? = some c → okAt (i + j) c = true
  | [], i => by simp [okFrom]
  | a :: r, i => by
    have ih := okFrom_iff r (i + 1)
    simp only [okFrom, Bool.and_eq_true, ih]
    constructor
    · rintro ⟨h1, h2⟩ j c hj
      cases j with
      | zero => simp at hj; subst hj; exact h1
      | succ j => rw [List.getElem?_cons_succ] at hj; have := h2 j c hj; rwa [show i + 1 + j = i + (j + 1) from by omega] at this
    · intro h
      exact ⟨h 0 a rfl, fun j c hj => by have := h (j + 1) c (by rw [List.getElem?_cons_succ]; exact hj); rwa [show i + (j + 1) = i + 1 + j from by omega] at this⟩
/-- What CodeFrom returns. -/
def fromL (s : ByteArray) : List Int := if okS s.toList then ev s.toList else []
end Cd

set_option maxHeartbeats 1000000 in
theorem l6Dec_digit (n : Int) (w : World) (h0 : 0 ≤ n) (h9 : n < 10) :
    Calls Try.prog 55 #[.int .i64 n] w fun e w' => e = .returned (.string (tstr [Cd.dig n])) ∧ Below w.heap.size w w' := by
  have hcv := fun (W : World) (z : Int) => run_bytes_string (P := Try.prog) (W.alloc (.cells #[.int .u8 z] 5)) 36 9 5 Try.underlying36 Try.underlying5 Try.underlying9 (base := 0) (g := W.heap.size) (n := 1) (c := 1) (t := 5) [z]
    (World.ownsRow_lit W #[.int .u8 z] 1 (Nat.zero_le _) (by unfold maxLen; omega) rfl)
  go_enter Try.func55, Try.ntmps55
  go_wp2_with fail
  go_ret
  refine ⟨?_, (Below.refl _ _).alloc (Nat.le_refl _) _⟩
  simp [bstr, Cd.dig, tstr]
set_option maxHeartbeats 2000000 in
theorem specCodeText_any (A : Option Addr) (n c : Nat) (zs : List Int) (w : World) (hx : RdI w A n zs) (hn : n ≤ 1099511627776) :
    Calls Try.prog 49 #[.slice A n c] w fun e w' => e = .returned (.string (tstr (Cd.codeText zs))) ∧ Below w.heap.size w w' := by
  have HX := Lib.hid hx
  have Hlx := Lib.hid hx.len
  clear hx
  by_cases hv : Cd.validB zs = true
  · have HV := Lib.hid hv
    have HG := Lib.hid (Cd.valid_grp hv)
    have HE : Hid (Cd.codeText zs = Cd.txt zs) := by unfold Hid Cd.codeText; rw [if_pos hv]
    clear hv
    have hn1 : 1 ≤ n := by have := HG.out; have := Hlx.out; omega
    have hn5 : n ≤ 5 := by have := HG.out; have := Hlx.out; omega
    go_enter Try.func49, Try.ntmps49
    go_wp2_with fail
    go_loopw [3, 4] (fun o i wr => ∃ (k : Nat) (l : List UInt8), k ≤ n ∧ i = .int .i64 k ∧ o = .string (tstr l) ∧ l.length ≤ 2 * k ∧ Hid (l = Cd.txt (zs.take k)) ∧ Hid (Below w.heap.size w wr)) (fun _ i _ => n - (intOf i).toNat)
    case atStart => exact ⟨0, [], Nat.zero_le _, rfl, rfl, by simp, by simp [Hid, Cd.txt], Below.refl _ _⟩
    case round =>
      obtain ⟨k, l, hk, rfl, rfl, hll, Hl, Hb⟩ := hrel
      have hls : (tstr l).size ≤ 2 * k := by rw [tstr_size]; exact hll
      by_cases hlt : k < n
      · obtain ⟨b, off, z, rfl, hzk, hcz0⟩ := HX.out.at_ hlt
        have hcz : wr.cell? ⟨b, off + k, none⟩ = some (.int .i64 z) := (Hb.out.cell (block_lt_of_cell hcz0)).trans hcz0
        have hz := HG.out.1 z (List.mem_of_getElem? hzk)
        obtain ⟨z1, z6⟩ := hz
        have HZ := Lib.hid hzk
        clear hzk hcz0
        go_wp2_with fail
        refine (specCodeValid_any _ _ _ zs _ (HX.out.below Hb.out) hn).mono ?_
        rintro e w1 ⟨rfl, rfl⟩
        rw [HV.out]
        have hd1 : (tstr [Cd.dig z]).size ≤ 1 := by rw [tstr_size]; simp
        by_cases hk0 : k = 0
        · have HK := Lib.hid hk0
          have hk0' : k ≤ 0 := by omega
          clear hk0
          go_wp2_with fail
          refine (l6Dec_digit z _ (by omega) (by omega)).mono ?_
          rintro e w2 ⟨rfl, hb2⟩
          have Hb2 := Lib.hid (below_seq Hb.out hb2)
          clear hb2
          go_wp2_with fail
          go_roundw
          case rel =>
            have h0 := HK.out
            have h1 := Hl.out
            subst h0
            simp [Cd.txt] at h1
            subst h1
            refine ⟨1, [Cd.dig z], by omega, rfl, by rw [tstr_append]; rfl, by simp, ?_, Hb2.out⟩
            unfold Hid
            rw [take_snoc HZ.out]
            simp [Cd.txt]
          case measure => simp [intOf]; omega
        · have hk1 : 1 ≤ k := by omega
          clear hk0
          go_wp2_with fail
          refine (l6Dec_digit z _ (by omega) (by omega)).mono ?_
          rintro e w2 ⟨rfl, hb2⟩
          have Hb2 := Lib.hid (below_seq Hb.out hb2)
          clear hb2
          go_wp2_with fail
          go_roundw
          case rel =>
            refine ⟨k + 1, l ++ [45] ++ [Cd.dig z], by omega, by go_num, ?_, by simp; omega, ?_, Hb2.out⟩
            · rw [← tstr_append, ← tstr_append]; rfl
            · unfold Hid
              rw [take_snoc HZ.out, Cd.txt_snoc _ _ (by intro h; have h2 := congrArg List.length h; rw [List.length_take, List.length_nil] at h2; have := Hlx.out; omega), Hl.out]
              simp
          case measure => simp [intOf]; omega
      · go_wp2_with fail
        go_ret
        refine ⟨?_, Hb.out⟩
        rw [HE.out, Hl.out, List.take_of_length_le (by have := Hlx.out; omega)]
        rfl
  · have HV : Hid (Cd.validB zs = false) := by unfold Hid; simpa using hv
    have HE : Hid (Cd.codeText zs = []) := by unfold Hid Cd.codeText; rw [if_neg hv]
    clear hv
    by_cases h0 : n = 0
    · subst h0
      go_enter Try.func49, Try.ntmps49
      go_wp2_with fail
      refine wp_loop_rounds 1 ?_
      rw [rounds_succ]
      go_wp2_with fail
      go_ret
      exact ⟨by rw [HE.out]; rfl, Below.refl _ _⟩
    · have h1 : 0 < n := by omega
      clear h0
      go_enter Try.func49, Try.ntmps49
      go_wp2_with fail
      refine wp_loop_rounds 1 ?_
      rw [rounds_succ]
      go_wp2_with fail
      refine (specCodeValid_any _ _ _ zs _ HX.out hn).mono ?_
      rintro e w1 ⟨rfl, rfl⟩
      rw [HV.out]
      go_wp2_with fail
      go_ret
      exact ⟨by rw [HE.out]; rfl, Below.refl _ _⟩
theorem str_at (s : ByteArray) (k : Nat) (h : k < s.size) : s.toList[k]? = some s[k] := by
  rw [ByteArray.toList_eq, List.getElem?_eq_getElem (by simpa using h)]
  simp [ByteArray.getElem_eq_getElem_data]
theorem str_len (s : ByteArray) : s.toList.length = s.size := by rw [ByteArray.toList_eq]; simp
set_option maxHeartbeats 4000000 in
theorem specCodeFrom_any (s : ByteArray) (w : World) (hs : s.size ≤ 1048576) :
    Calls Try.prog 29 #[.string s] w (RetL 3 w.heap.size (Cd.fromL s) (Cd.okS s.toList) w) := by
  have HLN := Lib.hid (Cd.ev_len s.toList)
  have HSL := Lib.hid (str_len s)
  obtain ⟨i0, hi, hz0, hz1, hz2⟩ := info_parts Try.infoInt
  go_enter Try.func29, Try.ntmps29
  go_wp2_with fail
  go_loopw [4, 5] (fun v i wr => ∃ k : Nat, 2 * k ≤ s.size + 1 ∧ i = .int .i64 (2 * (k : Int)) ∧ Hid (wr.ownsRow w.heap.size 3 1 v k (((Cd.ev s.toList).take k).map (Value.int .i64))) ∧ Hid (Below w.heap.size w wr)) (fun _ i _ => s.size + 2 - (intOf i).toNat)
  case atStart => exact ⟨0, by omega, rfl, own_lit0 w _, (Below.refl _ _).alloc (Nat.le_refl _) _⟩
  case round =>
    obtain ⟨k, hk, rfl, Ho, Hb⟩ := hrel
    obtain ⟨A2, c2, rfl, hfc⟩ := own_form Ho.out
    clear hfc
    by_cases hlt : 2 * k < s.size
    · have hcast : ((2 * k : Nat) : Int) = 2 * (k : Int) := by omega
      rw [← hcast]
      clear hcast
      have HZ := Lib.hid (Cd.ev_at s.toList k s[2 * k] (str_at s _ hlt))
      have hbt : s[2 * k].toNat < 256 := s[2 * k].toNat_lt
      have hown := Ho.out
      go_wp2_with (at_builtin; refine wpList_append_own _ rfl _ _ 24 rfl w.heap.size 3 i0 (.int .i64 0) 1 8 Try.underlying24 hi hz0 hz1 hz2 rfl (by decide) _ _ _ rfl (hown.alloc _) ⟨wr.heap.size, 0, none⟩ 1 1 [.int .i64 ((s[2 * k].toNat : Int) - 48)] rfl rfl (cell_new _ _ _) (one_cell _ rfl) ?c3 ?c4 ?c5 ?_)
      case c3 => unfold maxLen; omega
      case c4 => omega
      case c5 => have := Hb.out.size; simp; omega
      intro v2 w2 hown2 hgrow2 _
      have Ho2 := Lib.hid hown2
      have Hb2 := Lib.hid ((Hb.out.alloc Hb.out.size (.cells #[.int .i64 ((s[2 * k].toNat : Int) - 48)] 3)).grown hgrow2 (by have := Hb.out.size; simp; omega) (fun g h => ((Ho.out).lt g h).1))
      clear hown hown2 hgrow2
      go_wp2_with fail
      go_roundw
      case rel => exact ⟨k + 1, by omega, by go_num, by unfold Hid; rw [take_snoc HZ.out, List.map_append, List.map_take]; exact Ho2.out, Hb2.out⟩
      case measure => simp [intOf]; omega
    · have hk2 : k = (s.size + 1) / 2 := by omega
      have HK : Hid ((Cd.ev s.toList).take k = Cd.ev s.toList) := by
        unfold Hid
        exact List.take_of_length_le (by have := HLN.out; have := HSL.out; omega)
      have hge : (s.size : Int) ≤ 2 * (k : Int) := by omega
      clear hlt hk2
      have hown := Ho.out
      rw [HK.out] at hown
      have HO := Lib.hid hown
      clear hown Ho HK
      have hkb : k ≤ 1048576 := by omega
      by_cases hok : Cd.okS s.toList = true
      · have HOK := Lib.hid hok
        have HI := Lib.hid ((Cd.from_iff s.toList).2 hok)
        have HE : Hid (Cd.fromL s = Cd.ev s.toList) := by unfold Hid Cd.fromL; rw [if_pos hok]
        clear hok
        have hemp : (s.toList == ([] : List UInt8)) = false := by
          have := HI.out.1
          simpa using this
        have hemp2 : s.toList.isEmpty = false := by
          have := HI.out.1
          simpa using this
        go_wp2_with fail
        refine (specCodeText_any _ _ _ (Cd.ev s.toList) _ (RdI.of_own HO.out) (by omega)).mono ?_
        rintro e w2 ⟨rfl, hb2⟩
        have Hb2 := Lib.hid (below_seq Hb.out hb2)
        have HO2 := Lib.hid (own_belowAll HO.out hb2)
        have htl : ((tstr (Cd.codeText (Cd.ev s.toList))).toList == s.toList) = true := by rw [tstr_list, HI.out.2]; simp
        clear hb2
        go_wp2_with fail
        go_ret2
        exact ⟨_, _, _, by rw [HOK.out]; rfl, by rw [HE.out]; exact HO2.out, Hb2.out⟩
      · have HOK : Hid (Cd.okS s.toList = false) := by unfold Hid; simpa using hok
        have HI : Hid (¬ (s.toList ≠ [] ∧ Cd.codeText (Cd.ev s.toList) = s.toList)) := fun h => hok ((Cd.from_iff s.toList).1 h)
        have HE : Hid (Cd.fromL s = []) := by unfold Hid Cd.fromL; rw [if_neg hok]
        clear hok
        by_cases hse : s.toList = []
        · have hemp2 : s.toList.isEmpty = true := by simpa using hse
          clear hse
          go_wp2_with fail
          go_ret2
          exact ⟨_, _, _, by rw [HOK.out]; rfl, by rw [HE.out]; exact own_base (own_lit0 wr _) Hb.out.size, Hb.out.alloc Hb.out.size _⟩
        · have hemp2 : s.toList.isEmpty = false := by simpa using hse
          have HN := Lib.hid hse
          clear hse
          go_wp2_with fail
          refine (specCodeText_any _ _ _ (Cd.ev s.toList) _ (RdI.of_own HO.out) (by omega)).mono ?_
          rintro e w2 ⟨rfl, hb2⟩
          have Hb2 := Lib.hid (below_seq Hb.out hb2)
          have htl : ((tstr (Cd.codeText (Cd.ev s.toList))).toList == s.toList) = false := by
            rw [tstr_list]
            have h1 := HI.out
            have h2 := HN.out
            simp only [beq_eq_false_iff_ne, ne_eq]
            intro h3
            exact h1 ⟨h2, h3⟩
          clear hb2
          go_wp2_with fail
          go_ret2
          exact ⟨_, _, _, by rw [HOK.out]; rfl, by rw [HE.out]; exact own_base (own_lit0 w2 _) Hb2.out.size, Hb2.out.alloc Hb2.out.size _⟩
namespace Cd
/-- How far the program's reader has come without a wrong byte. -/
theorem okS_long {l : List UInt8} (h : 9 < l.length) : okS l = false := by
  unfold okS
  have : decide (l.length ≤ 9) = false := by simp; omega
  rw [this]; simp
theorem okS_even {l : List UInt8} (h : l.length % 2 = 0) : okS l = false := by
  unfold okS
  have : decide (l.length % 2 = 1) = false := by simp; omega
  rw [this]; simp
theorem okS_bad {l : List UInt8} {k : Nat} {c : UInt8} (h : l[k]? = some c) (hc : okAt k c = false) : okS l = false := by
  unfold okS
  have : okFrom 0 l = false := by
    cases e : okFrom 0 l
    · rfl
    · have := (okFrom_iff l 0).1 e k c h
      rw [Nat.zero_add, hc] at this; cases this
  rw [this]; simp
theorem okS_good {l : List UInt8} (h1 : l.length % 2 = 1) (h2 : l.length ≤ 9) (h3 : ∀ j c, l[j]? = some c → okAt j c = true) : okS l = true := by
  unfold okS
  rw [(okFrom_iff l 0).2 (fun j c hj => by rw [Nat.zero_add]; exact h3 j c hj)]
  simp [h1, h2]
end Cd
set_option maxHeartbeats 4000000 in
theorem implCodeFrom_any (s : ByteArray) (w : World) (hs : s.size ≤ 1048576) :
    Calls Try.prog 30 #[.string s] w (RetL 3 w.heap.size (Cd.fromL s) (Cd.okS s.toList) w) := by
  have HLN := Lib.hid (Cd.ev_len s.toList)
  have HSL := Lib.hid (str_len s)
  have fin : ∀ (v : World), Hid (Cd.okS s.toList = false) → Below w.heap.size w v → RetL 3 w.heap.size (Cd.fromL s) (Cd.okS s.toList) w (.returned (.tuple #[.slice (some ⟨v.heap.size, 0, none⟩) 0 0, .bool false])) (v.alloc (.cells #[] 3)) := by
    intro v h hb
    have HE : Cd.fromL s = [] := by unfold Cd.fromL; rw [if_neg (by simp [h.out])]
    exact ⟨_, _, _, by rw [h.out], by rw [HE]; exact own_base (own_lit0 v _) hb.size, hb.alloc hb.size _⟩
  have FIN := Lib.hid fin
  clear fin
  by_cases hev : s.size % 2 = 0
  · have hb : ((s.size : Int) % 2 == 0) = true := by simp; omega
    have HB : Hid (Cd.okS s.toList = false) := Cd.okS_even (by rw [HSL.out]; exact hev)
    clear hev
    go_enter Try.func30, Try.ntmps30
    go_wp2_with fail
    go_ret2
    exact FIN.out w HB.out (Below.refl _ _)
  · have hb : ((s.size : Int) % 2 == 0) = false := by simp; omega
    have HODD : Hid (s.size % 2 = 1) := by unfold Hid; omega
    clear hev
    by_cases h9 : 9 < s.size
    · have h9' : (9 : Int) < s.size := by omega
      have HB : Hid (Cd.okS s.toList = false) := Cd.okS_long (by rw [HSL.out]; exact h9)
      go_enter Try.func30, Try.ntmps30
      go_wp2_with fail
      go_ret2
      exact FIN.out w HB.out (Below.refl _ _)
    · have h9' : s.size ≤ 9 := by omega
      clear h9
      obtain ⟨i0, hi, hz0, hz1, hz2⟩ := info_parts Try.infoInt
      go_enter Try.func30, Try.ntmps30
      go_wp2_with (at_make; refine wpList_make_own _ rfl _ _ 24 rfl w.heap.size 3 i0 (.int .i64 0) 1 Try.underlying24 hi hz0 hz1 _ _ _ 5 rfl rfl rfl ?b2 ?b3 ?b4 ?_)
      case b2 => rw [hz2]; omega
      case b3 => unfold maxLen; omega
      case b4 => exact Nat.le_refl _
      intro w2 hown hgrow
      have HO := Lib.hid hown
      have HB := Lib.hid ((Below.refl w.heap.size w).grown hgrow (Nat.le_refl _) (fun k h => by cases h))
      clear hown hgrow
      go_wp2_with fail
      go_loopw [4, 19] (fun v i wr => ∃ k : Nat, k ≤ s.size ∧ i = .int .i64 k ∧ Hid (∀ j c, j < k → s.toList[j]? = some c → Cd.okAt j c = true) ∧ Hid (wr.ownsRow w.heap.size 3 1 v ((k + 1) / 2) (((Cd.ev s.toList).take ((k + 1) / 2)).map (Value.int .i64))) ∧ Hid (Below w.heap.size w wr)) (fun _ i _ => s.size - (intOf i).toNat)
      case atStart => exact ⟨0, by omega, rfl, fun j c hj => by omega, HO.out, HB.out⟩
      case round =>
        obtain ⟨k, hk, rfl, Hk, Ho, Hb⟩ := hrel
        obtain ⟨A2, c2, rfl, hfc⟩ := own_form Ho.out
        clear hfc
        by_cases hlt : k < s.size
        · have HSA := Lib.hid (str_at s k hlt)
          have hbt : s[k].toNat < 256 := s[k].toNat_lt
          have hold : ∀ (hc : Cd.okAt k s[k] = true) j c, j < k + 1 → s.toList[j]? = some c → Cd.okAt j c = true := by
            intro hc j c hj hjc
            by_cases e : j = k
            · subst e
              rw [HSA.out] at hjc
              cases hjc
              exact hc
            · exact Hk.out j c (by omega) hjc
          have HOLD := Lib.hid hold
          clear hold
          by_cases hpar : k % 2 = 1
          · have hp : ((k : Int) % 2 == 1) = true := by simp; omega
            have HPAR := Lib.hid hpar
            clear hpar
            by_cases h45 : s[k].toNat = 45
            · have h45' : ((s[k].toNat : Int) == 45) = true := by simp [h45]
              have HC : Hid (Cd.okAt k s[k] = true) := by
                unfold Hid Cd.okAt
                rw [if_pos HPAR.out]
                have : s[k] = 45 := UInt8.toNat_inj.1 (by rw [h45]; rfl)
                simp [this]
              clear h45
              go_wp2_with fail
              go_roundw
              case rel =>
                refine ⟨k + 1, by omega, by go_num, HOLD.out HC.out, ?_, Hb.out⟩
                rw [show (k + 1 + 1) / 2 = (k + 1) / 2 from by have := HPAR.out; omega]
                exact Ho.out
              case measure => simp [intOf]; omega
            · have h45' : ((s[k].toNat : Int) == 45) = false := by simp; omega
              have HC : Hid (Cd.okAt k s[k] = false) := by
                unfold Hid Cd.okAt
                rw [if_pos HPAR.out]
                simp only [beq_eq_false_iff_ne, ne_eq]
                intro h
                exact h45 (by rw [h]; rfl)
              clear h45
              go_wp2_with fail
              go_ret2
              exact FIN.out wr (Cd.okS_bad HSA.out HC.out) Hb.out
          · have hp : ((k : Int) % 2 == 1) = false := by simp; omega
            have HPAR := Lib.hid hpar
            clear hpar
            by_cases hd1 : s[k].toNat < 49
            · have HC : Hid (Cd.okAt k s[k] = false) := by
                unfold Hid Cd.okAt
                rw [if_neg HPAR.out]
                simp; omega
              go_wp2_with fail
              go_ret2
              exact FIN.out wr (Cd.okS_bad HSA.out HC.out) Hb.out
            · by_cases hd2 : 54 < s[k].toNat
              · have HC : Hid (Cd.okAt k s[k] = false) := by
                  unfold Hid Cd.okAt
                  rw [if_neg HPAR.out]
                  simp; omega
                have hd1' : 49 ≤ s[k].toNat := by omega
                clear hd1
                go_wp2_with fail
                go_ret2
                exact FIN.out wr (Cd.okS_bad HSA.out HC.out) Hb.out
              · have HC : Hid (Cd.okAt k s[k] = true) := by
                  unfold Hid Cd.okAt
                  rw [if_neg HPAR.out]
                  simp; omega
                have hd1' : 49 ≤ s[k].toNat := by omega
                have hd2' : s[k].toNat ≤ 54 := by omega
                clear hd1 hd2
                have HZ : Hid ((Cd.ev s.toList)[(k + 1) / 2]? = some ((s[k].toNat : Int) - 48)) := Cd.ev_at s.toList _ s[k] (by rw [show 2 * ((k + 1) / 2) = k from by have := HPAR.out; omega]; exact HSA.out)
                have hown := Ho.out
                go_wp2_with (at_builtin; refine wpList_append_own _ rfl _ _ 24 rfl w.heap.size 3 i0 (.int .i64 0) 1 8 Try.underlying24 hi hz0 hz1 hz2 rfl (by decide) _ _ _ rfl (hown.alloc _) ⟨wr.heap.size, 0, none⟩ 1 1 [.int .i64 ((s[k].toNat : Int) - 48)] rfl rfl (cell_new _ _ _) (one_cell _ rfl) ?c3 ?c4 ?c5 ?_)
                case c3 => unfold maxLen; omega
                case c4 => omega
                case c5 => have := Hb.out.size; simp; omega
                intro v2 w3 hown2 hgrow2 _
                have Ho2 := Lib.hid hown2
                have Hb2 := Lib.hid ((Hb.out.alloc Hb.out.size (.cells #[.int .i64 ((s[k].toNat : Int) - 48)] 3)).grown hgrow2 (by have := Hb.out.size; simp; omega) (fun g h => ((Ho.out).lt g h).1))
                clear hown hown2 hgrow2
                go_wp2_with fail
                go_roundw
                case rel =>
                  refine ⟨k + 1, by omega, by go_num, HOLD.out HC.out, ?_, Hb2.out⟩
                  unfold Hid
                  rw [show (k + 1 + 1) / 2 = (k + 1) / 2 + 1 from by have := HPAR.out; omega, take_snoc HZ.out, List.map_append, List.map_take]
                  exact Ho2.out
                case measure => simp [intOf]; omega
        · have hkn : k = s.size := by omega
          have HOK : Hid (Cd.okS s.toList = true) := Cd.okS_good (by rw [HSL.out]; exact HODD.out) (by rw [HSL.out]; omega) (fun j c hj => Hk.out j c (by have := (List.getElem?_eq_some_iff.1 hj).1; rw [HSL.out] at this; omega) hj)
          have HE : Hid (Cd.fromL s = Cd.ev s.toList) := by unfold Hid Cd.fromL; rw [if_pos HOK.out]
          have hown := Ho.out
          rw [List.take_of_length_le (by have := HLN.out; have := HSL.out; omega)] at hown
          have HO2 := Lib.hid hown
          clear hown
          go_wp2_with fail
          go_ret2
          exact ⟨_, _, _, by rw [HOK.out]; rfl, by rw [HE.out]; exact HO2.out, Hb.out⟩
end Go.Proofs.Ytablnijmoohjhaa
