/-
  TalkNew: slots.New, trystref15.New, where they succeed.
-/
import Derived.Test.YtnpdhgfmoofknaaObj
namespace Go.Proofs.Ytnpdhgfmoofknaa
open Go.RowKit
open Go.BigFrame
set_option linter.unusedVariables false
set_option linter.unusedSimpArgs false

set_option maxRecDepth 100000 in
set_option maxHeartbeats 1000000 in
theorem snew (q first n size text pages : Nat) (w : World) (hn : n ≤ 256) (h1 : 1 ≤ size) (h2 : size ≤ text) (h3 : text ≤ 4096) (h4 : first + pgs n (text / size) ≤ pages) (h5 : pages ≤ 65536) (c0 : w.cell? ⟨q, 35, none⟩ = some (.int .i64 pages)) (c1 : w.cell? ⟨q, 36, none⟩ = some (.int .i64 text)) :
    Calls Try.prog 23 #[.pointer (some ⟨q, 0, none⟩), .int .i64 first, .int .i64 n, .int .i64 size] w fun e w' => ∃ b, e = .returned (.tuple #[.pointer (some ⟨b, 0, none⟩), .int .i64 0]) ∧ Frm noB w w' := by
  have s0 : ¬ (size : Int) = 0 := by omega
  have hd : 1 ≤ text / size := (Nat.le_div_iff_mul_le (by omega)).2 (by omega)
  have hd2 : text / size ≤ text := Nat.div_le_self _ _
  have hw : wrap64 ((text : Int) / size) = ((text / size : Nat) : Int) := by
    rw [show (text : Int) / size = ((text / size : Nat) : Int) by simp]
    unfold wrap64
    omega
  generalize text / size = per at *
  have hf : Frm noB w (w.alloc (.cells #[.pointer (some ⟨q, 0, none⟩), .int .i64 first, .int .i64 n, .int .i64 size, .int .i64 per, .slice none 0 0] 117)) := (Frm.refl _ _).alloc _
  have c0' := hf.cell_some c0 (fun h => h)
  have hB : Blk (w.alloc (.cells #[.pointer (some ⟨q, 0, none⟩), .int .i64 first, .int .i64 n, .int .i64 size, .int .i64 per, .slice none 0 0] 117)) w.heap.size 117 #[.pointer (some ⟨q, 0, none⟩), .int .i64 first, .int .i64 n, .int .i64 size, .int .i64 per, .slice none 0 0] := Blk.new _ _ _
  have c4 := hB.cell 4
  have HF := Lib.hid hf
  clear hf hB
  have hk : pgs n per ≤ 257 := by
    unfold pgs
    have := Nat.div_le_self n per
    split <;> omega
  generalize hg : pgs n per = k at *
  have HP := Lib.hid fun w => pages_any n per w (by omega) ⟨hd, by omega⟩
  rw [hg] at HP
  clear hg
  go_enter Try.func23, Try.ntmps23
  go_wp2_with (first | (go_at_call 15; refine (ptext q text w c1).mono ?_; rintro _ _ ⟨rfl, rfl⟩) | (go_at_call 17; refine (ppages q pages _ c0').mono ?_; rintro _ _ ⟨rfl, rfl⟩) | (go_at_call 32; refine (HP.out _).mono ?_; rintro _ _ ⟨rfl, rfl⟩))
  go_ret2
  exact ⟨_, rfl, HF.out⟩
set_option maxRecDepth 100000 in
set_option maxHeartbeats 1000000 in
theorem rsnew (q first n size text pages : Nat) (w : World) (hn : n ≤ 256) (h1 : 1 ≤ size) (h2 : size ≤ text) (h3 : text ≤ 4096) (h4 : first + pgs n (text / size) ≤ pages) (h5 : pages ≤ 65536) (c0 : w.cell? ⟨q, 35, none⟩ = some (.int .i64 pages)) (c1 : w.cell? ⟨q, 36, none⟩ = some (.int .i64 text)) :
    Calls Try.prog 27 #[.pointer (some ⟨q, 0, none⟩), .int .i64 first, .int .i64 n, .int .i64 size] w fun e w' => ∃ b, e = .returned (.tuple #[.pointer (some ⟨b, 0, none⟩), .int .i64 0]) ∧ Frm noB w w' := by
  have s0 : ¬ (size : Int) = 0 := by omega
  have hd : 1 ≤ text / size := (Nat.le_div_iff_mul_le (by omega)).2 (by omega)
  have hd2 : text / size ≤ text := Nat.div_le_self _ _
  have hw : wrap64 ((text : Int) / size) = ((text / size : Nat) : Int) := by
    rw [show (text : Int) / size = ((text / size : Nat) : Int) by simp]
    unfold wrap64
    omega
  have q1 : IntKind.i64.wrap ((text : Int).tdiv size) = ((text / size : Nat) : Int) := by
    rw [Int.tdiv_eq_ediv_of_nonneg (by omega), show (text : Int) / size = ((text / size : Nat) : Int) by simp]
    exact IntWalk.i64_in _ (by omega)
  generalize text / size = per at *
  have hk : pgs n per ≤ 257 := by
    unfold pgs
    have := Nat.div_le_self n per
    split <;> omega
  have hw2 := hw
  clear hw2
  generalize hg : pgs n per = k at *
  have HP := Lib.hid fun w => take_any n per w (by omega) ⟨hd, by omega⟩
  rw [hg] at HP
  clear hg
  have q2 : IntKind.i64.wrap ((pages : Int) - first) = (pages : Int) - first := IntWalk.i64_in _ (by omega)
  have hf1 : ¬ (pages : Int) < first := by omega
  have hf2 : ¬ (pages : Int) - first < k := by omega
  have hd1 : decide ((pages : Int) < first) = false := decide_eq_false hf1
  go_enter Try.func27, Try.ntmps27
  go_upto_region 7 with fail
  refine wp_region_quiet_lit (by kernel_rfl) (by kernel_rfl) ?_
  repeat (go_big_quiet_step (fail))
  rw [hw]
  go_big_quiet_want
  go_big_quiet_op
  apply Exists.intro
  refine ⟨fun _ => ?_, ?_⟩
  · go_at_call 36
    exact (HP.out _).mono fun _ _ h => ⟨h.1, _, h.2.symm⟩
  go_big_quiet_on
  repeat (go_big_quiet_step (fail))
  refine wpQuiet_nil ?_
  intro _ hw'
  obtain ⟨nq, hw''⟩ := hw'
  subst hw''
  go_wp2
  go_ret2
  exact ⟨⟨_, rfl⟩, Frm.alloc (Frm.drewN (Frm.refl _ _) _) _⟩
end Go.Proofs.Ytnpdhgfmoofknaa
