/-
  TalkNew: math/bits.Len, network.Pad.
-/
import Derived.Test.YtnpdhgfmoofknaaNum
import Derived.StillTailTactics
import Derived.Deep.RegionHeld3
import Derived.Deep.CutBlock
import Derived.Lib.Tables
namespace Go.Proofs.Ytnpdhgfmoofknaa
open Go.RowKit
set_option linter.unusedVariables false
set_option linter.unusedSimpArgs false

theorem len8_eq (x : Nat) (hx : x ≤ 255) : Lib.len8 (x : Int) = (len8 x : Int) := by
  have h : ∀ x : Fin 256, Lib.len8 (x.val : Int) = (len8 x.val : Int) := by decide +kernel
  exact h ⟨x, by omega⟩
theorem len8_le (x : Nat) (hx : x ≤ 255) : len8 x ≤ 8 := by
  have h : ∀ x : Fin 256, len8 x.val ≤ 8 := by decide +kernel
  exact h ⟨x, by omega⟩
set_option maxRecDepth 100000 in
theorem fold_l : (⟨((([0, 1, 2, 2, 3, 3, 3, 3, 4, 4, 4, 4, 4, 4, 4, 4, 5, 5, 5, 5, 5, 5, 5, 5, 5, 5, 5, 5, 5, 5, 5, 5, 6, 6, 6, 6, 6, 6, 6, 6, 6, 6, 6, 6, 6, 6, 6, 6, 6, 6, 6, 6, 6, 6, 6, 6, 6, 6, 6, 6, 6, 6, 6, 6] : List UInt8).append [7, 7, 7, 7, 7, 7, 7, 7, 7, 7, 7, 7, 7, 7, 7, 7, 7, 7, 7, 7, 7, 7, 7, 7, 7, 7, 7, 7, 7, 7, 7, 7, 7, 7, 7, 7, 7, 7, 7, 7, 7, 7, 7, 7, 7, 7, 7, 7, 7, 7, 7, 7, 7, 7, 7, 7, 7, 7, 7, 7, 7, 7, 7, 7]).append (([8, 8, 8, 8, 8, 8, 8, 8, 8, 8, 8, 8, 8, 8, 8, 8, 8, 8, 8, 8, 8, 8, 8, 8, 8, 8, 8, 8, 8, 8, 8, 8, 8, 8, 8, 8, 8, 8, 8, 8, 8, 8, 8, 8, 8, 8, 8, 8, 8, 8, 8, 8, 8, 8, 8, 8, 8, 8, 8, 8, 8, 8, 8, 8] : List UInt8).append [8, 8, 8, 8, 8, 8, 8, 8, 8, 8, 8, 8, 8, 8, 8, 8, 8, 8, 8, 8, 8, 8, 8, 8, 8, 8, 8, 8, 8, 8, 8, 8, 8, 8, 8, 8, 8, 8, 8, 8, 8, 8, 8, 8, 8, 8, 8, 8, 8, 8, 8, 8, 8, 8, 8, 8, 8, 8, 8, 8, 8, 8, 8, 8])).toArray⟩ : ByteArray) = Lib.len8tab := by rfl
set_option maxRecDepth 100000 in
set_option maxHeartbeats 400000 in
theorem len64_any (x : Nat) (w : World) (hx : x ≤ 255) : Calls Try.prog 38 #[.int .u64 x] w fun e w' => e = .returned (.int .i64 (len8 x)) ∧ w = w' := by
  have hl := len8_le x hx
  have he := len8_eq x hx
  have x0 : (0 : Int) ≤ (x : Int) := by omega
  have x1 : (x : Int) ≤ 255 := by omega
  have x2 : (x : Int) % 256 = x := by omega
  have hrun : ∀ w : World, (Instr.index 9 (.string Lib.len8tab) (.int .u8 (x : Int))).run Try.prog w = .ok (.int .u8 (len8 x)) w := fun w => by rw [Lib.run_index_len8tab w _ _ _ Try.underlying9 x0 x1, he]
  have HRUN := Lib.hid hrun
  clear he hrun
  generalize len8 x = L at *
  go_enter Try.func38, Try.ntmps38
  rw [fold_l]
  generalize Lib.len8tab = tb at *
  have hrun := HRUN.out
  have y1 : ¬ (4294967296 : Int) ≤ x := by omega
  have y2 : ¬ (65536 : Int) ≤ x := by omega
  have y3 : ¬ (256 : Int) ≤ x := by omega
  go_upto_region 2 with fail
  trace_state
  go_upto_region 10 with fail
  trace_state
  go_wp2_with fail
  go_ret
  exact ⟨rfl, rfl⟩
theorem len_any (x : Nat) (w : World) (hx : x ≤ 255) : Calls Try.prog 33 #[.int .u64 x] w fun e w' => e = .returned (.int .i64 (len8 x)) ∧ w = w' := by
  have HL := Lib.hid (len64_any x w hx)
  go_enter Try.func33, Try.ntmps33
  go_wp2_with fail
  refine HL.out.mono ?_
  rintro _ _ ⟨rfl, rfl⟩
  try dsimp only
  go_wp2_with fail
  go_ret
  exact ⟨rfl, rfl⟩
theorem npad_any (n : Nat) (w : World) (hn : n ≤ 256) : Calls Try.prog 20 #[.int .i64 n] w fun e w' => e = .returned (.int .i64 (padN n)) ∧ w = w' := by
  by_cases h0 : n = 0
  · subst h0
    go_enter Try.func20, Try.ntmps20
    go_wp2
    go_ret
    exact ⟨rfl, rfl⟩
  · have HL := Lib.hid (len_any (n - 1) w (by omega))
    have e1 : ((n - 1 : Nat) : Int) = (n : Int) - 1 := by omega
    have hl := len8_le (n - 1) (by omega)
    have hp : padN n = 2 ^ len8 (n - 1) := if_neg h0
    have HP := Lib.hid hp
    rw [e1] at HL
    clear hp
    generalize len8 (n - 1) = L at *
    go_enter Try.func20, Try.ntmps20
    go_wp2_with fail
    refine HL.out.mono ?_
    rintro _ _ ⟨rfl, rfl⟩
    try dsimp only
    go_wp2_with fail
    go_ret
    have h2 : (2 : Int) ^ L = ((2 ^ L : Nat) : Int) := by simp
    have h3 : 2 ^ L ≤ 256 := Nat.pow_le_pow_right (n := 2) (by omega) hl
    refine ⟨?_, rfl⟩
    rw [HP.out]
    refine ret_int ?_
    rw [h2]
    generalize 2 ^ L = q at *
    unfold wrap64
    omega
end Go.Proofs.Ytnpdhgfmoofknaa
