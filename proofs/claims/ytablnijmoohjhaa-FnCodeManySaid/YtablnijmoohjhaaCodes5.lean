/-
  Contracts: CodeBack of the reference and of the program; and the walks of the laws FnExactCodeValid, FnExactCodeBeats, FnExactCodeBegins, FnExactCodeBack.
  Conditions: of the contracts: the slices read as lists of integers, of at most 2^40 elements; of the laws: none.
-/
import Derived.Test.YtablnijmoohjhaaCodes4
namespace Go.Proofs.Ytablnijmoohjhaa
open Go.RowKit
set_option linter.unusedVariables false

namespace Cd
/-- What CodeBack returns. -/
def back (zs : List Int) : List Int := if validB zs then zs.reverse else []
theorem back_len (zs : List Int) : (back zs).length ≤ 5 := by
  unfold back
  split
  · have := valid_grp ‹_›; simp; omega
  · simp
theorem rev_snoc (zs : List Int) (k : Nat) (z : Int) (h : zs[k]? = some z) : (zs.drop k).reverse = (zs.drop (k + 1)).reverse ++ [z] := by
  obtain ⟨hk, rfl⟩ := List.getElem?_eq_some_iff.1 h
  rw [List.drop_eq_getElem_cons hk, List.reverse_cons]
end Cd

theorem bstr_at {zs : List Int} (h : Cd.grp zs) {s : ByteArray} (hs : s = bstr zs) (k : Nat) (hk : k < s.size) : zs[k]? = some (s[k].toNat : Int) := by
  subst hs
  have hkz : k < zs.length := by rw [bstr_size] at hk; exact hk
  rw [List.getElem?_eq_getElem hkz]
  congr 1
  have h1 : (bstr zs)[k] = UInt8.ofNat (zs[k]).toNat := by simp [bstr, ByteArray.getElem_eq_getElem_data]
  have := h zs[k] (List.getElem_mem hkz)
  rw [h1, UInt8.toNat_ofNat']
  omega
theorem own_lit0 (w : World) (e : TypeId) : (w.alloc (.cells #[] e)).ownsRow w.heap.size e 1 (.slice (some ⟨w.heap.size, 0, none⟩) 0 0) 0 [] :=
  World.ownsRow_lit w #[] 0 (Nat.le_refl _) (Nat.zero_le _) rfl

set_option maxHeartbeats 1000000 in
theorem specCodeBack_any (A : Option Addr) (n c : Nat) (zs : List Int) (w : World) (hx : RdI w A n zs) (hn : n ≤ 1099511627776) :
    Calls Try.prog 25 #[.slice A n c] w (RetL 3 w.heap.size (Cd.back zs) (Cd.validB zs) w) := by
  have HX := Lib.hid hx
  have Hlx := Lib.hid hx.len
  clear hx
  by_cases hv : Cd.validB zs = true
  · have HV := Lib.hid hv
    have HG := Lib.hid (Cd.valid_grp hv)
    have HE : Hid (Cd.back zs = zs.reverse) := by unfold Hid Cd.back; rw [if_pos hv]
    clear hv
    obtain ⟨i0, hi, hz0, hz1, hz2⟩ := info_parts Try.infoInt
    go_enter Try.func25, Try.ntmps25
    go_wp2_with fail
    refine (specCodeValid_any _ _ _ zs _ (Rd.alloc HX.out _) hn).mono ?_
    rintro e w1 ⟨rfl, rfl⟩
    rw [HV.out]
    have hn1 : 1 ≤ n := by have := HG.out; have := Hlx.out; omega
    have hn5 : n ≤ 5 := by have := HG.out; have := Hlx.out; omega
    go_wp2_with fail
    go_loopw [4, 5] (fun v i wr => ∃ k : Nat, k ≤ n ∧ i = .int .i64 ((k : Int) - 1) ∧ Hid (wr.ownsRow w.heap.size 3 1 v (n - k) ((zs.drop k).reverse.map (Value.int .i64))) ∧ Hid (Below w.heap.size w wr)) (fun _ i _ => ((intOf i) + 1).toNat)
    case atStart => exact ⟨n, Nat.le_refl _, rfl, by unfold Hid; rw [Nat.sub_self, List.drop_of_length_le (by have := Hlx.out; omega)]; exact own_lit0 w _, (Below.refl _ _).alloc (Nat.le_refl _) _⟩
    case round =>
      obtain ⟨k, hk, rfl, Ho, Hb⟩ := hrel
      by_cases hlt : 1 ≤ k
      · obtain ⟨j, rfl⟩ : ∃ j, k = j + 1 := ⟨k - 1, by omega⟩
        have ej : ((j + 1 : Nat) : Int) - 1 = (j : Int) := by omega
        rw [ej]
        clear ej
        obtain ⟨b, off, z, rfl, hzk, hcz0⟩ := HX.out.at_ (k := j) (by omega)
        have hcz : wr.cell? ⟨b, off + j, none⟩ = some (.int .i64 z) := (Hb.out.cell (block_lt_of_cell hcz0)).trans hcz0
        have HZ := Lib.hid hzk
        clear hzk hcz0
        have hown := Ho.out
        go_wp2_with (at_builtin; refine wpList_append_own _ rfl _ _ 24 rfl w.heap.size 3 i0 (.int .i64 0) 1 8 Try.underlying24 hi hz0 hz1 hz2 rfl (by decide) _ _ _ rfl (hown.alloc _) ⟨wr.heap.size, 0, none⟩ 1 1 [.int .i64 z] rfl rfl (cell_new _ _ _) (one_cell _ rfl) ?c3 ?c4 ?c5 ?_)
        case c3 => unfold maxLen; omega
        case c4 => omega
        case c5 => have := Hb.out.size; simp; omega
        intro v2 w2 hown2 hgrow2 _
        have Ho2 := Lib.hid hown2
        have Hb2 := Lib.hid ((Hb.out.alloc Hb.out.size (.cells #[.int .i64 z] 3)).grown hgrow2 (by have := Hb.out.size; simp; omega) (fun g h => ((Ho.out).lt g h).1))
        clear hown hown2 hgrow2
        go_wp2_with fail
        go_roundw
        case rel => exact ⟨j, by omega, rfl, by unfold Hid; have := Ho2.out; rw [Cd.rev_snoc zs j z HZ.out, List.map_append, List.map_reverse, List.map_drop, show n - j = n - (j + 1) + 1 from by omega]; exact this, Hb2.out⟩
        case measure => simp [intOf]
      · obtain rfl : k = 0 := by omega
        clear hlt
        go_wp2_with fail
        go_ret2
        obtain ⟨A2, c2, rfl, _⟩ := own_form Ho.out
        refine ⟨A2, n - 0, c2, by rw [HV.out]; rfl, ?_, Hb.out⟩
        have := Ho.out
        rw [HE.out]
        rw [List.drop_zero] at this
        exact this
  · have HV : Hid (Cd.validB zs = false) := by unfold Hid; simpa using hv
    have HE : Hid (Cd.back zs = []) := by unfold Hid Cd.back; rw [if_neg hv]
    clear hv
    go_enter Try.func25, Try.ntmps25
    go_wp2_with fail
    refine (specCodeValid_any _ _ _ zs _ (Rd.alloc HX.out _) hn).mono ?_
    rintro e w1 ⟨rfl, rfl⟩
    rw [HV.out]
    go_wp2_with fail
    go_ret2
    exact ⟨_, _, _, by rw [HV.out]; rfl, by rw [HE.out]; exact own_lit0 w _, (Below.refl _ _).alloc (Nat.le_refl _) _⟩
set_option maxHeartbeats 1000000 in
theorem implCodeBack_any (A : Option Addr) (n c : Nat) (zs : List Int) (w : World) (hx : RdI w A n zs) (hn : n ≤ 1099511627776) :
    Calls Try.prog 26 #[.slice A n c] w (RetL 3 w.heap.size (Cd.back zs) (Cd.validB zs) w) := by
  have HX := Lib.hid hx
  have Hlx := Lib.hid hx.len
  clear hx
  by_cases hv : Cd.validB zs = true
  · have HV := Lib.hid hv
    have HG := Lib.hid (Cd.valid_grp hv)
    have HE : Hid (Cd.back zs = zs.reverse) := by unfold Hid Cd.back; rw [if_pos hv]
    clear hv
    have hn1 : 1 ≤ n := by have := HG.out; have := Hlx.out; omega
    have hn5 : n ≤ 5 := by have := HG.out; have := Hlx.out; omega
    obtain ⟨s, hs⟩ : ∃ s, s = bstr zs := ⟨_, rfl⟩
    have HS := Lib.hid hs
    have hss : s.size = n := by rw [hs, bstr_size, Hlx.out]
    have HSS := Lib.hid hss
    have hs1 : 1 ≤ s.size := by omega
    have hs5 : s.size ≤ 5 := by omega
    have HBY : Hid (∀ (k : Nat) (hk : k < s.size), zs[k]? = some (s[k].toNat : Int)) := by
      unfold Hid
      intro k hk
      have hkz : k < zs.length := by have := Hlx.out; omega
      rw [List.getElem?_eq_getElem hkz]
      congr 1
      have h1 : s[k] = UInt8.ofNat (zs[k]).toNat := by subst hs; simp [bstr, ByteArray.getElem_eq_getElem_data]
      have := HG.out.1 zs[k] (List.getElem_mem hkz)
      rw [h1, UInt8.toNat_ofNat']
      omega
    clear hs hss
    obtain ⟨i0, hi, hz0, hz1, hz2⟩ := info_parts Try.infoInt
    go_enter Try.func26, Try.ntmps26
    go_wp2_with fail
    refine (codeOf_any _ _ _ zs _ HX.out hn).mono ?_
    rintro e w1 ⟨rfl, hb1⟩
    have Hb1 := Lib.hid hb1
    clear hb1
    rw [Cd.codeV_yes HV.out, ← HS.out]
    go_wp2_with (at_make; refine wpList_make_own _ rfl _ _ 24 rfl w.heap.size 3 i0 (.int .i64 0) 1 Try.underlying24 hi hz0 hz1 _ _ _ s.size rfl rfl rfl ?b2 ?b3 ?b4 ?_)
    case b2 => rw [hz2]; omega
    case b3 => unfold maxLen; omega
    case b4 => exact Hb1.out.size
    intro w2 hown hgrow
    have HO := Lib.hid hown
    have HB := Lib.hid (Hb1.out.grown hgrow Hb1.out.size (fun k h => by cases h))
    clear hown hgrow
    go_wp2_with fail
    go_loopw [6, 7] (fun v i wr => ∃ k : Nat, k ≤ s.size ∧ i = .int .i64 ((k : Int) - 1) ∧ v = .slice (some ⟨w1.heap.size, 0, none⟩) (s.size - k) s.size ∧ Hid (wr.ownsRow w.heap.size 3 1 (.slice (some ⟨w1.heap.size, 0, none⟩) (s.size - k) s.size) (s.size - k) ((zs.drop k).reverse.map (Value.int .i64))) ∧ Hid (Below w.heap.size w wr)) (fun _ i _ => ((intOf i) + 1).toNat)
    case atStart => exact ⟨s.size, Nat.le_refl _, rfl, by rw [Nat.sub_self], by unfold Hid; rw [Nat.sub_self, List.drop_of_length_le (by have := Hlx.out; have := HSS.out; omega)]; exact HO.out, HB.out⟩
    case round =>
      obtain ⟨k, hk, rfl, rfl, Ho, Hb⟩ := hrel
      by_cases hlt : 1 ≤ k
      · obtain ⟨j, rfl⟩ : ∃ j, k = j + 1 := ⟨k - 1, by omega⟩
        have ej : ((j + 1 : Nat) : Int) - 1 = (j : Int) := by omega
        rw [ej]
        clear ej
        have hjs : j < s.size := by omega
        have hbt : s[j].toNat < 256 := s[j].toNat_lt
        have HZ := Lib.hid (HBY.out j hjs)
        have hown := Ho.out
        go_wp2_with (at_builtin; refine wpList_append_fits _ rfl _ _ 24 rfl w.heap.size 3 i0 1 Try.underlying24 hi hz1 w1.heap.size (s.size - (j + 1)) s.size _ rfl (hown.alloc _) ⟨wr.heap.size, 0, none⟩ 1 1 [.int .i64 s[j].toNat] rfl rfl (cell_new _ _ _) (one_cell _ rfl) (by omega) ?_)
        intro w3 hown2 hgrow2
        have Ho2 := Lib.hid hown2
        have Hb2 := Lib.hid ((Hb.out.alloc Hb.out.size (.cells #[.int .i64 s[j].toNat] 3)).grown hgrow2 (by have := Hb.out.size; simp; omega) (fun g h => by cases h; exact Hb1.out.size))
        clear hown hown2 hgrow2
        go_wp2_with fail
        go_roundw
        case rel => exact ⟨j, by omega, rfl, by rw [show s.size - j = s.size - (j + 1) + 1 from by omega], by unfold Hid; have := Ho2.out; rw [Cd.rev_snoc zs j _ HZ.out, List.map_append, List.map_reverse, List.map_drop, show s.size - j = s.size - (j + 1) + 1 from by omega]; exact this, Hb2.out⟩
        case measure => simp [intOf]
      · obtain rfl : k = 0 := by omega
        clear hlt
        go_wp2_with fail
        go_ret2
        refine ⟨_, s.size - 0, _, by rw [HV.out]; rfl, ?_, Hb.out⟩
        have := Ho.out
        rw [HE.out]
        rw [List.drop_zero] at this
        exact this
  · have HV : Hid (Cd.validB zs = false) := by unfold Hid; simpa using hv
    have HE : Hid (Cd.back zs = []) := by unfold Hid Cd.back; rw [if_neg hv]
    clear hv
    go_enter Try.func26, Try.ntmps26
    go_wp2_with fail
    refine (codeOf_any _ _ _ zs _ HX.out hn).mono ?_
    rintro e w1 ⟨rfl, hb1⟩
    have Hb1 := Lib.hid hb1
    clear hb1
    rw [Cd.codeV_no HV.out]
    go_wp2_with fail
    go_ret2
    exact ⟨_, _, _, by rw [HV.out]; rfl, by rw [HE.out]; exact own_base (own_lit0 w1 _) Hb1.out.size, Hb1.out.alloc Hb1.out.size _⟩
end Go.Proofs.Ytablnijmoohjhaa
