/-
  trystref03: rot, word, begin, keys.
-/
import Derived.Test.YtkhakddecmgejaaDoorDsum
namespace Go.Proofs.YtkhakddecmgejaaDoor
open Go.RowKit
set_option linter.unusedVariables false
set_option linter.unusedSimpArgs false

theorem u_rt (x : UInt32) (n : Nat) (h1 : 1 ≤ n) (h2 : n ≤ 31) : bits .or .u32 (u x / 2 ^ n) (u x * 2 ^ (32 - n) % 4294967296) = u (rotr x n) := by
  rw [u_shl_mod x (32 - n) (by omega), u_shr x n (by omega), u_or]
  rfl
theorem rt_n (x : UInt32) (n : Nat) (h : 1 ≤ n ∧ n ≤ 31) (w : World) : Calls Tryd.prog 72 #[.int .u32 (u x), .int .i64 n] w fun e w' => e = .returned (.int .u32 (u (rotr x n))) ∧ ∃ d, w' = w.drewN d := by
  obtain ⟨h1, h2⟩ := h
  have e1 := u_rt x n h1 h2
  have e2 : bits .or .u32 (u x / 2 ^ n) (IntKind.u32.wrap (u x * 2 ^ (32 - n))) = u (rotr x n) := by rw [IntKind.wrap_u32', e1]
  have s1 : IntKind.i64.wrap (32 - (n : Int)) = 32 - (n : Int) := IntWalk.i64_in _ (by omega)
  have n1 : (32 - (n : Int)).toNat = 32 - n := by omega
  have o1 : 0 ≤ (n : Int) ∧ (n : Int) ≤ 32 ∧ (n : Int) ≤ 31 ∧ 0 ≤ 32 - (n : Int) ∧ 32 - (n : Int) ≤ 32 := by omega
  go_enter Tryd.func72, Tryd.ntmps72
  go_wp2_with fail
  go_quiet (fail)
  go_wp2
  go_ret
  exact ⟨rfl, nq, rfl⟩
theorem rt_ (x : UInt32) (n : Nat) (h : 1 ≤ n ∧ n ≤ 31) (k : Int) (hk : (n : Int) = k) (w : World) : Calls Tryd.prog 72 #[.int .u32 (u x), .int .i64 k] w fun e w' => e = .returned (.int .u32 (u (rotr x n))) ∧ ∃ d, w' = w.drewN d := hk ▸ rt_n x n h w

theorem rt_any (x : UInt32) (z : Int) (h : 1 ≤ z ∧ z ≤ 31) (w : World) : Calls Tryd.prog 72 #[.int .u32 (u x), .int .i64 z] w fun e w' => e = .returned (.int .u32 (u (rotr x z.toNat))) ∧ ∃ d, w' = w.drewN d := by
  obtain ⟨n, rfl⟩ := Int.eq_ofNat_of_zero_le (show 0 ≤ z by omega)
  rw [Int.toNat_natCast]
  exact rt_n x n (by omega) w
/-- the word at a place of a list -/
def wordAt (xs : List UInt8) (p : Nat) : UInt32 := (((xs.getD p 0).toUInt32 <<< 24) ||| ((xs.getD (p + 1) 0).toUInt32 <<< 16) ||| ((xs.getD (p + 2) 0).toUInt32 <<< 8)) ||| (xs.getD (p + 3) 0).toUInt32
theorem wordAt_blk (xs : List UInt8) (i k : Nat) : wordAt xs (64 * i + 4 * k) = wd (blk xs i) k := by
  unfold wordAt wd blk
  simp only [Nat.add_assoc]
theorem Rd.u {w : World} {A : Option Addr} {xs : List UInt8} (h : Rd w A (xs.map bv)) {i : Nat} (hi : i < xs.length) :
    ∃ b off, A = some ⟨b, off, none⟩ ∧ w.cell? ⟨b, off + i, none⟩ = some (.int .u8 (u (xs.getD i 0).toUInt32)) := by
  obtain ⟨b, off, e, hc⟩ := h i (by simpa using hi)
  refine ⟨b, off, e, ?_⟩
  rw [hc]
  simp only [List.getElem_map, bv_u]
  simp [List.getD, hi]

set_option maxHeartbeats 1000000 in
theorem word_any (w : World) (A : Option Addr) (xs : List UInt8) (c p : Nat) (z : Int) (hz : z = (p : Int)) (hx : Rd w A (xs.map bv)) (hp : p + 4 ≤ xs.length) (hl : xs.length ≤ 1125899906842624) :
    Calls Tryd.prog 71 #[.slice A xs.length c, .int .i64 z] w fun e w' => e = .returned (.int .u32 (u (wordAt xs p))) ∧ ∃ d, w' = w.drewN d := by
  subst hz
  obtain ⟨b, off, rfl, c0⟩ := hx.u (i := p) (by omega)
  obtain ⟨_, _, e1, c1⟩ := hx.u (i := p + 1) (by omega)
  obtain ⟨_, _, e2, c2⟩ := hx.u (i := p + 2) (by omega)
  obtain ⟨_, _, e3, c3⟩ := hx.u (i := p + 3) (by omega)
  cases e1
  cases e2
  cases e3
  have hw := u_wrap
  have h8 := u_sh8
  have h16 := u_sh16
  have h24 := u_sh24
  have hor := u_or
  have z0 := u_bd (xs.getD p 0).toUInt32
  have z1 := u_bd (xs.getD (p + 1) 0).toUInt32
  have z2 := u_bd (xs.getD (p + 2) 0).toUInt32
  have z3 := u_bd (xs.getD (p + 3) 0).toUInt32
  generalize hx0 : (xs.getD p 0).toUInt32 = x0 at *
  generalize hx1 : (xs.getD (p + 1) 0).toUInt32 = x1 at *
  generalize hx2 : (xs.getD (p + 2) 0).toUInt32 = x2 at *
  generalize hx3 : (xs.getD (p + 3) 0).toUInt32 = x3 at *
  have hres : wordAt xs p = ((x0 <<< 24) ||| (x1 <<< 16) ||| (x2 <<< 8)) ||| x3 := by unfold wordAt; rw [hx0, hx1, hx2, hx3]
  have HRES := Lib.hid hres
  have s1 : IntKind.i64.wrap ((p : Int) + 1) = (p : Int) + 1 := IntWalk.i64_in _ (by omega)
  have s2 : IntKind.i64.wrap ((p : Int) + 2) = (p : Int) + 2 := IntWalk.i64_in _ (by omega)
  have s3 : IntKind.i64.wrap ((p : Int) + 3) = (p : Int) + 3 := IntWalk.i64_in _ (by omega)
  have n1 : ((p : Int) + 1).toNat = p + 1 := by omega
  have n2 : ((p : Int) + 2).toNat = p + 2 := by omega
  have n3 : ((p : Int) + 3).toNat = p + 3 := by omega
  have o0 : 0 ≤ (p : Int) ∧ (p : Int) < (xs.length : Int) ∧ p < xs.length := by omega
  have o1 : 0 ≤ (p : Int) + 1 ∧ (p : Int) + 1 < (xs.length : Int) ∧ p + 1 < xs.length := by omega
  have o2 : 0 ≤ (p : Int) + 2 ∧ (p : Int) + 2 < (xs.length : Int) ∧ p + 2 < xs.length := by omega
  have o3 : 0 ≤ (p : Int) + 3 ∧ (p : Int) + 3 < (xs.length : Int) ∧ p + 3 < xs.length := by omega
  clear hx hres hx0 hx1 hx2 hx3
  go_enter Tryd.func71, Tryd.ntmps71
  go_wp2_with fail
  go_quiet (fail)
  go_wp2
  go_ret
  exact ⟨by rw [HRES.out]; rfl, nq, rfl⟩
end Go.Proofs.YtkhakddecmgejaaDoor
