/-
  Words of 32 bits and the walk's integers. No program in sight.
-/
import Derived.WalkKit
import Derived.Laws.BitsAllLaws
namespace Go.Proofs.YtkhakddecmgejaaDoor
open Go.RowKit
set_option linter.unusedVariables false
set_option linter.unusedSimpArgs false

/-- a word as the walk's number -/
def u (x : UInt32) : Int := (x.toNat : Int)
/-- a word as a value -/
def uv (x : UInt32) : Value := .int .u32 (u x)

theorem u_bd (x : UInt32) : 0 ≤ u x ∧ u x < 4294967296 := by
  have := x.toNat_lt
  unfold u; omega
theorem u_toNat (x : UInt32) : (u x).toNat = x.toNat := by unfold u; simp
theorem u_inj {x y : UInt32} (h : u x = u y) : x = y := by
  unfold u at h
  exact UInt32.toNat_inj.1 (by omega)
theorem u_and (x y : UInt32) : bits .and .u32 (u x) (u y) = u (x &&& y) := by
  rw [u32_and _ _ (u_bd x).1 (u_bd x).2 (u_bd y).1 (u_bd y).2]
  simp [u_toNat, u]
theorem u_or (x y : UInt32) : bits .or .u32 (u x) (u y) = u (x ||| y) := by
  rw [u32_or _ _ (u_bd x).1 (u_bd x).2 (u_bd y).1 (u_bd y).2]
  simp [u_toNat, u]
theorem u_xor (x y : UInt32) : bits .xor .u32 (u x) (u y) = u (x ^^^ y) := by
  rw [u32_xor _ _ (u_bd x).1 (u_bd x).2 (u_bd y).1 (u_bd y).2]
  simp [u_toNat, u]
theorem u_not (x : UInt32) : bits .xor .u32 4294967295 (u x) = u (~~~x) := by
  rw [show (4294967295 : Int) = u 0xffffffff from rfl, u_xor]
  congr 1
theorem u_not' (x : UInt32) : bits .xor .u32 IntKind.u32.max (u x) = u (~~~x) := by
  rw [show IntKind.u32.max = 4294967295 from rfl, u_not]
theorem u_add (x y : UInt32) : IntKind.u32.wrap (u x + u y) = u (x + y) := by
  rw [IntKind.wrap_u32']
  simp [u]
theorem u_shl (x : UInt32) (n : Nat) (h : n < 32) : IntKind.u32.wrap (u x * 2 ^ n) = u (x <<< UInt32.ofNat n) := by
  rw [IntKind.wrap_u32']
  unfold u
  rw [UInt32.toNat_shiftLeft]
  have e : (UInt32.ofNat n).toNat % 32 = n := by
    rw [UInt32.toNat_ofNat']; omega
  rw [e, Nat.shiftLeft_eq]
  simp
theorem u_shr (x : UInt32) (n : Nat) (h : n < 32) : u x / 2 ^ n = u (x >>> UInt32.ofNat n) := by
  unfold u
  rw [UInt32.toNat_shiftRight]
  have e : (UInt32.ofNat n).toNat % 32 = n := by
    rw [UInt32.toNat_ofNat']; omega
  rw [e, Nat.shiftRight_eq_div_pow]
  simp

theorem u_wrap (x : UInt32) : IntKind.u32.wrap (u x) = u x := by
  rw [IntKind.wrap_u32']
  have := u_bd x
  omega
theorem u_sh8 (x : UInt32) : IntKind.u32.wrap (u x * 256) = u (x <<< 8) := u_shl x 8 (by decide)
theorem u_sh16 (x : UInt32) : IntKind.u32.wrap (u x * 65536) = u (x <<< 16) := u_shl x 16 (by decide)
theorem u_sh24 (x : UInt32) : IntKind.u32.wrap (u x * 16777216) = u (x <<< 24) := u_shl x 24 (by decide)
theorem u_shr3 (x : UInt32) : u x / 8 = u (x >>> 3) := u_shr x 3 (by decide)
theorem u_shr10 (x : UInt32) : u x / 1024 = u (x >>> 10) := u_shr x 10 (by decide)
theorem u_xor8 (a b : UInt32) : bits .xor .u32 (u a) (u b / 8) = u (a ^^^ b >>> 3) := by
  have e : u b / (8 : Int) = u (b >>> 3) := u_shr b 3 (by decide)
  rw [e, u_xor]
theorem u_xor1024 (a b : UInt32) : bits .xor .u32 (u a) (u b / 1024) = u (a ^^^ b >>> 10) := by
  have e : u b / (1024 : Int) = u (b >>> 10) := u_shr b 10 (by decide)
  rw [e, u_xor]
theorem u_add_mod (x y : UInt32) : (u x + u y) % 4294967296 = u (x + y) := by
  rw [← IntKind.wrap_u32', u_add]
theorem u_shl_mod (x : UInt32) (n : Nat) (h : n < 32) : u x * 2 ^ n % 4294967296 = u (x <<< UInt32.ofNat n) := by
  rw [← IntKind.wrap_u32', u_shl x n h]

/-- turned to the right -/
def rotr (x : UInt32) (n : Nat) : UInt32 := (x >>> UInt32.ofNat n) ||| (x <<< UInt32.ofNat (32 - n))
theorem u_rot (x : UInt32) (m : Nat) (h1 : 1 ≤ m) (h2 : m ≤ 31) : bits .or .u32 (u x * 2 ^ m % 4294967296) (u x / 2 ^ (32 - m)) = u (rotr x (32 - m)) := by
  rw [u_shl_mod x m (by omega), u_shr x (32 - m) (by omega), u_or]
  unfold rotr
  rw [show 32 - (32 - m) = m by omega, UInt32.or_comm]

/-- eight words -/
structure S8 where
  a : UInt32
  b : UInt32
  c : UInt32
  d : UInt32
  e : UInt32
  f : UInt32
  g : UInt32
  h : UInt32
def S8.list (s : S8) : List UInt32 := [s.a, s.b, s.c, s.d, s.e, s.f, s.g, s.h]
def S8.val (s : S8) : Value := .agg #[.int .u32 (u s.a), .int .u32 (u s.b), .int .u32 (u s.c), .int .u32 (u s.d), .int .u32 (u s.e), .int .u32 (u s.f), .int .u32 (u s.g), .int .u32 (u s.h)]
def stepP (s : S8) (kw : UInt32) : UInt32 := s.h + (rotr s.e 6 ^^^ rotr s.e 11 ^^^ rotr s.e 25) + ((s.e &&& s.f) ^^^ (~~~s.e &&& s.g)) + kw
def stepQ (s : S8) : UInt32 := (rotr s.a 2 ^^^ rotr s.a 13 ^^^ rotr s.a 22) + ((s.a &&& s.b) ^^^ (s.a &&& s.c) ^^^ (s.b &&& s.c))
/-- one of the 64 steps -/
def stp (s : S8) (kw : UInt32) : S8 := ⟨stepP s kw + stepQ s, s.a, s.b, s.c, s.d + stepP s kw, s.e, s.f, s.g⟩
end Go.Proofs.YtkhakddecmgejaaDoor
