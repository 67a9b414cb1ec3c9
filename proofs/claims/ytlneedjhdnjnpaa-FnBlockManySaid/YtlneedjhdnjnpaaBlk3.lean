/-
  Contract of stateBehind: what an event does to a state.
  Conditions: none (a state, a byte).
-/
import Derived.Test.YtlneedjhdnjnpaaBlk2
namespace Go.Proofs.Ytlneedjhdnjnpaa
open Go.RowKit
set_option linter.unusedVariables false

theorem as_0_0 (w : World) : (Instr.typeAssert (.iface 102 (.agg #[])) 64 102 true).run Try.prog w = .ok (.tuple #[.agg #[], .bool true]) w := by kernel_rfl
theorem as_0_1 (w : World) : (Instr.typeAssert (.iface 102 (.agg #[])) 64 103 true).run Try.prog w = .ok (.tuple #[.agg #[], .bool false]) w := by kernel_rfl
theorem as_0_2 (w : World) : (Instr.typeAssert (.iface 102 (.agg #[])) 64 104 true).run Try.prog w = .ok (.tuple #[.agg #[], .bool false]) w := by kernel_rfl
theorem as_0_3 (w : World) : (Instr.typeAssert (.iface 102 (.agg #[])) 64 105 true).run Try.prog w = .ok (.tuple #[.agg #[], .bool false]) w := by kernel_rfl
theorem as_0_4 (w : World) : (Instr.typeAssert (.iface 102 (.agg #[])) 64 106 true).run Try.prog w = .ok (.tuple #[.agg #[], .bool false]) w := by kernel_rfl
theorem as_1_0 (w : World) : (Instr.typeAssert (.iface 103 (.agg #[])) 64 102 true).run Try.prog w = .ok (.tuple #[.agg #[], .bool false]) w := by kernel_rfl
theorem as_1_1 (w : World) : (Instr.typeAssert (.iface 103 (.agg #[])) 64 103 true).run Try.prog w = .ok (.tuple #[.agg #[], .bool true]) w := by kernel_rfl
theorem as_1_2 (w : World) : (Instr.typeAssert (.iface 103 (.agg #[])) 64 104 true).run Try.prog w = .ok (.tuple #[.agg #[], .bool false]) w := by kernel_rfl
theorem as_1_3 (w : World) : (Instr.typeAssert (.iface 103 (.agg #[])) 64 105 true).run Try.prog w = .ok (.tuple #[.agg #[], .bool false]) w := by kernel_rfl
theorem as_1_4 (w : World) : (Instr.typeAssert (.iface 103 (.agg #[])) 64 106 true).run Try.prog w = .ok (.tuple #[.agg #[], .bool false]) w := by kernel_rfl
theorem as_2_0 (w : World) : (Instr.typeAssert (.iface 104 (.agg #[])) 64 102 true).run Try.prog w = .ok (.tuple #[.agg #[], .bool false]) w := by kernel_rfl
theorem as_2_1 (w : World) : (Instr.typeAssert (.iface 104 (.agg #[])) 64 103 true).run Try.prog w = .ok (.tuple #[.agg #[], .bool false]) w := by kernel_rfl
theorem as_2_2 (w : World) : (Instr.typeAssert (.iface 104 (.agg #[])) 64 104 true).run Try.prog w = .ok (.tuple #[.agg #[], .bool true]) w := by kernel_rfl
theorem as_2_3 (w : World) : (Instr.typeAssert (.iface 104 (.agg #[])) 64 105 true).run Try.prog w = .ok (.tuple #[.agg #[], .bool false]) w := by kernel_rfl
theorem as_2_4 (w : World) : (Instr.typeAssert (.iface 104 (.agg #[])) 64 106 true).run Try.prog w = .ok (.tuple #[.agg #[], .bool false]) w := by kernel_rfl
theorem as_3_0 (w : World) : (Instr.typeAssert (.iface 105 (.agg #[])) 64 102 true).run Try.prog w = .ok (.tuple #[.agg #[], .bool false]) w := by kernel_rfl
theorem as_3_1 (w : World) : (Instr.typeAssert (.iface 105 (.agg #[])) 64 103 true).run Try.prog w = .ok (.tuple #[.agg #[], .bool false]) w := by kernel_rfl
theorem as_3_2 (w : World) : (Instr.typeAssert (.iface 105 (.agg #[])) 64 104 true).run Try.prog w = .ok (.tuple #[.agg #[], .bool false]) w := by kernel_rfl
theorem as_3_3 (w : World) : (Instr.typeAssert (.iface 105 (.agg #[])) 64 105 true).run Try.prog w = .ok (.tuple #[.agg #[], .bool true]) w := by kernel_rfl
theorem as_3_4 (w : World) : (Instr.typeAssert (.iface 105 (.agg #[])) 64 106 true).run Try.prog w = .ok (.tuple #[.agg #[], .bool false]) w := by kernel_rfl
theorem as_4_0 (w : World) : (Instr.typeAssert (.iface 106 (.agg #[])) 64 102 true).run Try.prog w = .ok (.tuple #[.agg #[], .bool false]) w := by kernel_rfl
theorem as_4_1 (w : World) : (Instr.typeAssert (.iface 106 (.agg #[])) 64 103 true).run Try.prog w = .ok (.tuple #[.agg #[], .bool false]) w := by kernel_rfl
theorem as_4_2 (w : World) : (Instr.typeAssert (.iface 106 (.agg #[])) 64 104 true).run Try.prog w = .ok (.tuple #[.agg #[], .bool false]) w := by kernel_rfl
theorem as_4_3 (w : World) : (Instr.typeAssert (.iface 106 (.agg #[])) 64 105 true).run Try.prog w = .ok (.tuple #[.agg #[], .bool false]) w := by kernel_rfl
theorem as_4_4 (w : World) : (Instr.typeAssert (.iface 106 (.agg #[])) 64 106 true).run Try.prog w = .ok (.tuple #[.agg #[], .bool true]) w := by kernel_rfl
attribute [local go_sem] as_0_0 as_0_1 as_0_2 as_0_3 as_0_4 as_1_0 as_1_1 as_1_2 as_1_3 as_1_4 as_2_0 as_2_1 as_2_2 as_2_3 as_2_4 as_3_0 as_3_1 as_3_2 as_3_3 as_3_4 as_4_0 as_4_1 as_4_2 as_4_3 as_4_4

/-- What stateBehind returns. -/
def behV (s c : Nat) : Value := match Bk.step s c with | some t => .tuple #[stV t, .bool true] | none => .tuple #[stV s, .bool false]
theorem behV_some {s c t : Nat} (h : Bk.step s c = some t) : behV s c = .tuple #[stV t, .bool true] := by unfold behV; rw [h]
theorem behV_none {s c : Nat} (h : Bk.step s c = none) : behV s c = .tuple #[stV s, .bool false] := by unfold behV; rw [h]

set_option maxHeartbeats 2000000 in
theorem stateBehind_any (s c : Nat) (w : World) (hs : s < 5) (hc : c < 256) :
    Calls Try.prog 60 #[stV s, .int .u8 c] w fun e w' => e = .returned (behV s c) ∧ w = w' := by
  have : s = 0 ∨ s = 1 ∨ s = 2 ∨ s = 3 ∨ s = 4 := by omega
  rcases this with rfl | rfl | rfl | rfl | rfl
  · clear hs
    by_cases h : c = 111
    · subst h
      show Calls Try.prog 60 #[.iface 102 (.agg #[]), .int .u8 111] w _
      go_enter Try.func60, Try.ntmps60
      go_wp2_with fail
      go_ret2
      exact ⟨rfl, rfl⟩
    · have HE : Hid (behV 0 c = .tuple #[stV 0, .bool false]) := behV_none (by simp [Bk.step, h])
      have hb : ((c : Int) == 111) = false := by simp; omega
      clear h
      show Calls Try.prog 60 #[.iface 102 (.agg #[]), .int .u8 c] w _
      go_enter Try.func60, Try.ntmps60
      go_wp2_with fail
      go_ret2
      exact ⟨by rw [HE.out]; rfl, rfl⟩
  · clear hs
    by_cases h : c = 114
    · subst h
      show Calls Try.prog 60 #[.iface 103 (.agg #[]), .int .u8 114] w _
      go_enter Try.func60, Try.ntmps60
      go_wp2_with fail
      go_ret2
      exact ⟨rfl, rfl⟩
    · by_cases h' : c = 97
      · subst h'
        clear h
        show Calls Try.prog 60 #[.iface 103 (.agg #[]), .int .u8 97] w _
        go_enter Try.func60, Try.ntmps60
        go_wp2_with fail
        go_ret2
        exact ⟨rfl, rfl⟩
      · have HE : Hid (behV 1 c = .tuple #[stV 1, .bool false]) := behV_none (by simp [Bk.step, h, h'])
        have hb : ((c : Int) == 114) = false := by simp; omega
        have hb' : ((c : Int) == 97) = false := by simp; omega
        clear h h'
        show Calls Try.prog 60 #[.iface 103 (.agg #[]), .int .u8 c] w _
        go_enter Try.func60, Try.ntmps60
        go_wp2_with fail
        go_ret2
        exact ⟨by rw [HE.out]; rfl, rfl⟩
  · clear hs
    by_cases h : c = 99
    · subst h
      show Calls Try.prog 60 #[.iface 104 (.agg #[]), .int .u8 99] w _
      go_enter Try.func60, Try.ntmps60
      go_wp2_with fail
      go_ret2
      exact ⟨rfl, rfl⟩
    · by_cases h' : c = 101
      · subst h'
        clear h
        show Calls Try.prog 60 #[.iface 104 (.agg #[]), .int .u8 101] w _
        go_enter Try.func60, Try.ntmps60
        go_wp2_with fail
        go_ret2
        exact ⟨rfl, rfl⟩
      · have HE : Hid (behV 2 c = .tuple #[stV 2, .bool false]) := behV_none (by simp [Bk.step, h, h'])
        have hb : ((c : Int) == 99) = false := by simp; omega
        have hb' : ((c : Int) == 101) = false := by simp; omega
        clear h h'
        show Calls Try.prog 60 #[.iface 104 (.agg #[]), .int .u8 c] w _
        go_enter Try.func60, Try.ntmps60
        go_wp2_with fail
        go_ret2
        exact ⟨by rw [HE.out]; rfl, rfl⟩
  · clear hs
    by_cases h : c = 108
    · subst h
      show Calls Try.prog 60 #[.iface 105 (.agg #[]), .int .u8 108] w _
      go_enter Try.func60, Try.ntmps60
      go_wp2_with fail
      go_ret2
      exact ⟨rfl, rfl⟩
    · have HE : Hid (behV 3 c = .tuple #[stV 3, .bool false]) := behV_none (by simp [Bk.step, h])
      have hb : ((c : Int) == 108) = false := by simp; omega
      clear h
      show Calls Try.prog 60 #[.iface 105 (.agg #[]), .int .u8 c] w _
      go_enter Try.func60, Try.ntmps60
      go_wp2_with fail
      go_ret2
      exact ⟨by rw [HE.out]; rfl, rfl⟩
  · clear hs
    by_cases h : c = 102
    · subst h
      show Calls Try.prog 60 #[.iface 106 (.agg #[]), .int .u8 102] w _
      go_enter Try.func60, Try.ntmps60
      go_wp2_with fail
      go_ret2
      exact ⟨rfl, rfl⟩
    · have HE : Hid (behV 4 c = .tuple #[stV 4, .bool false]) := behV_none (by simp [Bk.step, h])
      have hb : ((c : Int) == 102) = false := by simp; omega
      clear h
      show Calls Try.prog 60 #[.iface 106 (.agg #[]), .int .u8 c] w _
      go_enter Try.func60, Try.ntmps60
      go_wp2_with fail
      go_ret2
      exact ⟨by rw [HE.out]; rfl, rfl⟩
end Go.Proofs.Ytlneedjhdnjnpaa
