/-
  TalkNew: network.Pad, the two Pages, the reference's Check.
-/
import Derived.Test.YtnpdhgfmoofknaaNum
import Derived.StillTailTactics
import Derived.Deep.RegionHeld3
import Derived.Deep.CutBlock
namespace Go.Proofs.Ytnpdhgfmoofknaa
open Go.RowKit
set_option linter.unusedVariables false
set_option linter.unusedSimpArgs false

set_option maxHeartbeats 400000 in
theorem spages_any (n size text : Nat) (w : World) (hn : n ≤ 256) (h1 : 1 ≤ size) (h2 : size ≤ text) (h3 : text ≤ 4096) : Calls Try.prog 19 #[.int .i64 n, .int .i64 size, .int .i64 text] w fun e w' => e = .returned (.tuple #[.int .i64 (pgs n (text / size)), .int .i64 0]) ∧ w = w' := by
  have s0 : ¬ (size : Int) = 0 := by omega
  have hd : 1 ≤ text / size := (Nat.le_div_iff_mul_le (by omega)).2 (by omega)
  have hd2 : text / size ≤ text := Nat.div_le_self _ _
  have hp : pgs n (text / size) ≤ 257 := by
    unfold pgs
    have := Nat.div_le_self n (text / size)
    split <;> omega
  have hP := pages_any n (text / size) w (by omega) ⟨hd, by omega⟩
  rw [show ((text / size : Nat) : Int) = (text : Int) / size by omega] at hP
  have hw : wrap64 ((text : Int) / size) = (text : Int) / size := by
    rw [show (text : Int) / size = ((text / size : Nat) : Int) by simp]
    unfold wrap64
    omega
  have HP := Lib.hid hP
  clear hP
  generalize pgs n (text / size) = q at *
  clear hd hd2
  go_enter Try.func19, Try.ntmps19
  go_wp2_with fail
  refine HP.out.mono ?_
  rintro _ _ ⟨rfl, rfl⟩
  try dsimp only
  go_wp2_with fail
  go_ret2
  exact ⟨rfl, rfl⟩
set_option maxHeartbeats 400000 in
theorem rpages_any (n size text : Nat) (w : World) (hn : n ≤ 256) (h1 : 1 ≤ size) (h2 : size ≤ text) (h3 : text ≤ 4096) : Calls Try.prog 26 #[.int .i64 n, .int .i64 size, .int .i64 text] w fun e w' => e = .returned (.tuple #[.int .i64 (pgs n (text / size)), .int .i64 0]) ∧ w = w' := by
  have s0 : ¬ (size : Int) = 0 := by omega
  have hd : 1 ≤ text / size := (Nat.le_div_iff_mul_le (by omega)).2 (by omega)
  have hd2 : text / size ≤ text := Nat.div_le_self _ _
  have hp : pgs n (text / size) ≤ 257 := by
    unfold pgs
    have := Nat.div_le_self n (text / size)
    split <;> omega
  have hP := take_any n (text / size) w (by omega) ⟨hd, by omega⟩
  rw [show ((text / size : Nat) : Int) = (text : Int) / size by omega] at hP
  have hw : wrap64 ((text : Int) / size) = (text : Int) / size := by
    rw [show (text : Int) / size = ((text / size : Nat) : Int) by simp]
    unfold wrap64
    omega
  have HP := Lib.hid hP
  clear hP
  generalize pgs n (text / size) = q at *
  clear hd hd2
  go_enter Try.func26, Try.ntmps26
  go_wp2_with fail
  refine HP.out.mono ?_
  rintro _ _ ⟨rfl, rfl⟩
  try dsimp only
  go_wp2_with fail
  go_ret2
  exact ⟨rfl, rfl⟩

set_option maxHeartbeats 4000000 in
theorem rcheck_any (c : Cfg) (w : World) (hf : c.fits) : Calls Try.prog 24 #[c.val] w fun e w' => e = .returned (.int .i64 c.err) ∧ Frm noB w w' := by
  obtain ⟨x1, x2, x3, x4, x5, x6⟩ := c
  have hfa : Frm noB w (w.alloc (.cells #[.int .i64 x1, .int .i64 x2, .int .i64 x3, .int .i64 x4, .int .i64 x5, .int .i64 x6] 23)) := (Frm.refl _ _).alloc _
  change Calls Try.prog 24 #[.agg #[.int .i64 x1, .int .i64 x2, .int .i64 x3, .int .i64 x4, .int .i64 x5, .int .i64 x6]] w _
  go_enter Try.func24, Try.ntmps24
  go_wp2
  all_goals
    go_ret
    refine ⟨ret_int ?_, hfa⟩
    unfold Cfg.err
    first
      | exact (if_pos (by unfold Cfg.good; simp only []; omega)).symm
      | exact (if_neg (by unfold Cfg.good; simp only []; omega)).symm
      | trace_state
end Go.Proofs.Ytnpdhgfmoofknaa
