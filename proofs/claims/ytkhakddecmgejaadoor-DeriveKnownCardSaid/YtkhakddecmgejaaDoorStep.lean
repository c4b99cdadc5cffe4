/-
  RotateLeft32, and one step of the digest.
-/
import Derived.Test.YtkhakddecmgejaaDoorProg
import Derived.Test.YtkhakddecmgejaaDoorWord
import Derived.Test.YtkhakddecmgejaaDoorMem
import Derived.Deep.QuietTactic
import Derived.BigQuiet
import Derived.Lib.Hide
namespace Go.Proofs.YtkhakddecmgejaaDoor
open Go.RowKit
set_option linter.unusedVariables false
set_option linter.unusedSimpArgs false

theorem rot_m (x : UInt32) (k : Int) (m : Nat) (hk : bits .and .u64 (IntKind.u64.wrap k) 31 = (m : Int)) (h : 1 ≤ m ∧ m ≤ 31) (w : World) :
    Calls Tryd.prog 75 #[.int .u32 (u x), .int .i64 k] w fun e w' => e = .returned (.int .u32 (u (rotr x (32 - m)))) ∧ w = w' := by
  obtain ⟨h1, h2⟩ := h
  have hr := u_rot x m h1 h2
  go_enter Tryd.func75, Tryd.ntmps75
  go_wp2
  go_ret
  exact ⟨rfl, rfl⟩
theorem rot_n (x : UInt32) (k : Int) (n : Nat) (hk : bits .and .u64 (IntKind.u64.wrap k) 31 = ((32 - n : Nat) : Int)) (h : 1 ≤ n ∧ n ≤ 31) (w : World) :
    Calls Tryd.prog 75 #[.int .u32 (u x), .int .i64 k] w fun e w' => e = .returned (.int .u32 (u (rotr x n))) ∧ w = w' := by
  have := rot_m x k (32 - n) hk (by omega) w
  rwa [show 32 - (32 - n) = n by omega] at this
theorem rot_2 (x : UInt32) (w : World) : Calls Tryd.prog 75 #[.int .u32 (u x), .int .i64 (-2)] w fun e w' => e = .returned (.int .u32 (u (rotr x 2))) ∧ w = w' := rot_n x (-2) 2 (by decide +kernel) (by decide) w
theorem rot_6 (x : UInt32) (w : World) : Calls Tryd.prog 75 #[.int .u32 (u x), .int .i64 (-6)] w fun e w' => e = .returned (.int .u32 (u (rotr x 6))) ∧ w = w' := rot_n x (-6) 6 (by decide +kernel) (by decide) w
theorem rot_7 (x : UInt32) (w : World) : Calls Tryd.prog 75 #[.int .u32 (u x), .int .i64 (-7)] w fun e w' => e = .returned (.int .u32 (u (rotr x 7))) ∧ w = w' := rot_n x (-7) 7 (by decide +kernel) (by decide) w
theorem rot_11 (x : UInt32) (w : World) : Calls Tryd.prog 75 #[.int .u32 (u x), .int .i64 (-11)] w fun e w' => e = .returned (.int .u32 (u (rotr x 11))) ∧ w = w' := rot_n x (-11) 11 (by decide +kernel) (by decide) w
theorem rot_13 (x : UInt32) (w : World) : Calls Tryd.prog 75 #[.int .u32 (u x), .int .i64 (-13)] w fun e w' => e = .returned (.int .u32 (u (rotr x 13))) ∧ w = w' := rot_n x (-13) 13 (by decide +kernel) (by decide) w
theorem rot_17 (x : UInt32) (w : World) : Calls Tryd.prog 75 #[.int .u32 (u x), .int .i64 (-17)] w fun e w' => e = .returned (.int .u32 (u (rotr x 17))) ∧ w = w' := rot_n x (-17) 17 (by decide +kernel) (by decide) w
theorem rot_18 (x : UInt32) (w : World) : Calls Tryd.prog 75 #[.int .u32 (u x), .int .i64 (-18)] w fun e w' => e = .returned (.int .u32 (u (rotr x 18))) ∧ w = w' := rot_n x (-18) 18 (by decide +kernel) (by decide) w
theorem rot_19 (x : UInt32) (w : World) : Calls Tryd.prog 75 #[.int .u32 (u x), .int .i64 (-19)] w fun e w' => e = .returned (.int .u32 (u (rotr x 19))) ∧ w = w' := rot_n x (-19) 19 (by decide +kernel) (by decide) w
theorem rot_22 (x : UInt32) (w : World) : Calls Tryd.prog 75 #[.int .u32 (u x), .int .i64 (-22)] w fun e w' => e = .returned (.int .u32 (u (rotr x 22))) ∧ w = w' := rot_n x (-22) 22 (by decide +kernel) (by decide) w
theorem rot_25 (x : UInt32) (w : World) : Calls Tryd.prog 75 #[.int .u32 (u x), .int .i64 (-25)] w fun e w' => e = .returned (.int .u32 (u (rotr x 25))) ∧ w = w' := rot_n x (-25) 25 (by decide +kernel) (by decide) w

set_option maxHeartbeats 1000000 in
theorem step_any (s : S8) (k : UInt32) (w : World) : Calls Tryd.prog 76 #[s.val, .int .u32 (u k)] w fun e w' => e = .returned (stp s k).val ∧ Frm noB w w' := by
  obtain ⟨a, b, c, d, e, f, g, i⟩ := s
  have ha := u_and
  have hx := u_xor
  have hn := u_not'
  have hsg : IntKind.u32.signed = false := rfl
  have hs := u_add_mod
  have hs' := u_add
  show Calls Tryd.prog 76 #[.agg #[.int .u32 (u a), .int .u32 (u b), .int .u32 (u c), .int .u32 (u d), .int .u32 (u e), .int .u32 (u f), .int .u32 (u g), .int .u32 (u i)], .int .u32 (u k)] w _
  go_enter Tryd.func76, Tryd.ntmps76
  go_wp2_with fail
  go_quiet (fail)
  go_wp2_with fail
  refine (rot_6 e _).mono ?_
  rintro _ _ ⟨rfl, rfl⟩
  go_wp2_with fail
  refine (rot_11 e _).mono ?_
  rintro _ _ ⟨rfl, rfl⟩
  go_wp2_with fail
  refine (rot_25 e _).mono ?_
  rintro _ _ ⟨rfl, rfl⟩
  go_wp2_with fail
  refine (rot_2 a _).mono ?_
  rintro _ _ ⟨rfl, rfl⟩
  go_wp2_with fail
  refine (rot_13 a _).mono ?_
  rintro _ _ ⟨rfl, rfl⟩
  go_wp2_with fail
  refine (rot_22 a _).mono ?_
  rintro _ _ ⟨rfl, rfl⟩
  go_wp2_with fail
  refine bodyPost_ret (v := (stp ⟨a, b, c, d, e, f, g, i⟩ k).val) (by simp [results, Tryd.results76, go_sem, stp, stepP, stepQ, S8.val]) rfl ⟨rfl, ?_⟩
  repeat (refine Frm.setCell ?_ (.inr (by simp)) _)
  exact (((Frm.refl _ _).alloc _).alloc _).drewN _
end Go.Proofs.YtkhakddecmgejaaDoor
