/-
  The digest of a text: plain. No program in sight.
-/
import Derived.Test.YtkhakddecmgejaaDoorArr
namespace Go.Proofs.YtkhakddecmgejaaDoor
open Go.RowKit
set_option linter.unusedVariables false
set_option linter.unusedSimpArgs false

theorem wd_congr {bl bl' : Nat → UInt8} (h : ∀ j, j < 64 → bl j = bl' j) {t : Nat} (ht : t < 16) : wd bl t = wd bl' t := by
  unfold wd
  rw [h _ (by omega), h _ (by omega), h _ (by omega), h _ (by omega)]
theorem schedL_congr {bl bl' : Nat → UInt8} (h : ∀ j, j < 64 → bl j = bl' j) : ∀ n, schedL bl n = schedL bl' n
  | 0 => rfl
  | n + 1 => by
    simp only [schedL, schedL_congr h n]
    by_cases e : n < 16
    · rw [if_pos e, if_pos e, wd_congr h e]
    · rw [if_neg e, if_neg e]
theorem steps_congr {bl bl' : Nat → UInt8} (h : ∀ j, j < 64 → bl j = bl' j) (s : S8) : ∀ k, steps bl s k = steps bl' s k
  | 0 => rfl
  | k + 1 => by simp only [steps, steps_congr h s k, sched, schedL_congr h 64]
theorem comp_congr {st st' : Nat → UInt32} {bl bl' : Nat → UInt8} (h : ∀ j, j < 8 → st j = st' j) (h' : ∀ j, j < 64 → bl j = bl' j) {j : Nat} (hj : j < 8) : comp st bl j = comp st' bl' j := by
  have e : S8.of st = S8.of st' := by
    unfold S8.of
    rw [h 0 (by decide), h 1 (by decide), h 2 (by decide), h 3 (by decide), h 4 (by decide), h 5 (by decide), h 6 (by decide), h 7 (by decide)]
  unfold comp
  rw [h j hj, e, steps_congr h']

/-- the block number i of a text -/
def blk (m : List UInt8) (i : Nat) : Nat → UInt8 := fun j => m.getD (64 * i + j) 0
/-- the words behind n blocks -/
def stOf (m : List UInt8) : Nat → Nat → UInt32
  | 0 => h0
  | n + 1 => comp (stOf m n) (blk m n)
theorem getD_app {m y : List UInt8} {i : Nat} (h : i < m.length) : (m ++ y).getD i 0 = m.getD i 0 := by
  simp only [List.getD_eq_getElem?_getD]
  rw [List.getElem?_append_left h]
theorem getD_app2 {m y : List UInt8} {i : Nat} : (m ++ y).getD (m.length + i) 0 = y.getD i 0 := by
  simp only [List.getD_eq_getElem?_getD]
  rw [List.getElem?_append_right (by omega), Nat.add_sub_cancel_left]
theorem stOf_app (m y : List UInt8) : ∀ n, 64 * n ≤ m.length → ∀ j, j < 8 → stOf (m ++ y) n j = stOf m n j
  | 0, _, _, _ => rfl
  | n + 1, h, j, hj => comp_congr (stOf_app m y n (by omega)) (fun i hi => getD_app (by omega)) hj

/-- a number in eight bytes, the highest first -/
def be8 (n : Nat) : List UInt8 := (List.range 8).map fun i => UInt8.ofNat (n >>> (56 - 8 * i))
/-- how many bytes 0 stand between the mark and the length -/
def zs (n : Nat) : Nat := (119 - n % 64) % 64
/-- the padded text -/
def pad (m : List UInt8) : List UInt8 := m ++ (0x80 :: List.replicate (zs m.length) 0) ++ be8 (8 * m.length)
theorem pad_length (m : List UInt8) : (pad m).length = m.length + 1 + zs m.length + 8 := by
  simp [pad, be8]; omega
theorem pad_mod (m : List UInt8) : (pad m).length % 64 = 0 := by
  rw [pad_length]; unfold zs; omega
/-- the bytes of eight words -/
def outOf (st : Nat → UInt32) : List UInt8 := (List.range 32).map fun i => ((st (i / 4)) >>> UInt32.ofNat (24 - 8 * (i % 4))).toUInt8
/-- the digest -/
def sha (m : List UInt8) : List UInt8 := outOf (stOf (pad m) ((pad m).length / 64))
theorem outOf_length (st : Nat → UInt32) : (outOf st).length = 32 := by simp [outOf]
theorem sha_length (m : List UInt8) : (sha m).length = 32 := outOf_length _
theorem outOf_congr {st st' : Nat → UInt32} (h : ∀ j, j < 8 → st j = st' j) : outOf st = outOf st' := by
  unfold outOf
  refine List.map_congr_left fun i hi => ?_
  have : i < 32 := by simpa using hi
  rw [h _ (by omega)]

/-- a hash has taken the text m: its words, the bytes of its block (so far) -/
structure Took (st : Nat → UInt32) (bl : Nat → UInt8) (m : List UInt8) : Prop where
  st : ∀ j, j < 8 → st j = stOf m (m.length / 64) j
  bl : ∀ j, j < m.length % 64 → bl j = m.getD (64 * (m.length / 64) + j) 0
theorem Took.nil {st : Nat → UInt32} {bl : Nat → UInt8} (h : ∀ j, j < 8 → st j = h0 j) : Took st bl [] := ⟨h, fun j hj => absurd hj (by simp)⟩
/-- what a block reads as when y has been laid into it from q on -/
def laidIn (bl : Nat → UInt8) (q : Nat) (y : List UInt8) : Nat → UInt8 := fun j => if q ≤ j ∧ j < q + y.length then y.getD (j - q) 0 else bl j
theorem laid_at {st : Nat → UInt32} {bl : Nat → UInt8} {m y : List UInt8} (h : Took st bl m) (hy : m.length % 64 + y.length ≤ 64) {j : Nat} (hj : j < m.length % 64 + y.length) :
    laidIn bl (m.length % 64) y j = (m ++ y).getD (64 * (m.length / 64) + j) 0 := by
  unfold laidIn
  by_cases e : m.length % 64 ≤ j
  · rw [if_pos ⟨e, hj⟩, show 64 * (m.length / 64) + j = m.length + (j - m.length % 64) by omega, getD_app2]
  · rw [if_neg (by omega), h.bl j (by omega), getD_app (by omega)]
theorem Took.some {st : Nat → UInt32} {bl : Nat → UInt8} {m y : List UInt8} (h : Took st bl m) (hy : m.length % 64 + y.length < 64) : Took st (laidIn bl (m.length % 64) y) (m ++ y) := by
  have e1 : (m ++ y).length / 64 = m.length / 64 := by simp; omega
  have e2 : (m ++ y).length % 64 = m.length % 64 + y.length := by simp; omega
  refine ⟨fun j hj => ?_, fun j hj => ?_⟩
  · rw [e1, h.st j hj, stOf_app m y _ (by omega) j hj]
  · rw [e1]
    exact laid_at h (by omega) (by omega)
theorem Took.full {st : Nat → UInt32} {bl : Nat → UInt8} {m y : List UInt8} (h : Took st bl m) (hy : m.length % 64 + y.length = 64) (bl' : Nat → UInt8) : Took (comp st (laidIn bl (m.length % 64) y)) bl' (m ++ y) := by
  have e1 : (m ++ y).length / 64 = m.length / 64 + 1 := by simp; omega
  have e2 : (m ++ y).length % 64 = 0 := by simp; omega
  refine ⟨fun j hj => ?_, fun j hj => absurd hj (by omega)⟩
  rw [e1]
  exact comp_congr (fun i hi => by rw [h.st i hi, stOf_app m y _ (by omega) i hi]) (fun i hi => laid_at h (by omega) (by omega)) hj
end Go.Proofs.YtkhakddecmgejaaDoor
