/-
  Blocks that read as a function; the digest's object. No program in sight.
-/
import Derived.Test.YtkhakddecmgejaaDoorWord
import Derived.Test.YtkhakddecmgejaaDoorArr0
namespace Go.Proofs.YtkhakddecmgejaaDoor
open Go.RowKit
set_option linter.unusedVariables false
set_option linter.unusedSimpArgs false

/-- words -/
def ws (f : Nat → UInt32) : Nat → Value := fun i => uv (f i)
theorem Blk.putw {w : World} {g : Nat} {t : TypeId} {n : Nat} {f : Nat → UInt32} (h : Blk w g t (arr n (ws f))) (k : Nat) (x : UInt32) : Blk (w.setCell ⟨g, k, none⟩ (.int .u32 (u x))) g t (arr n (ws fun i => if i = k then x else f i)) :=
  (h.put k (uv x)).same fun i _ => by simp only [ws]; split <;> rfl
theorem Blk.atw {w : World} {g : Nat} {t : TypeId} {n : Nat} {f : Nat → UInt32} (h : Blk w g t (arr n (ws f))) {i : Nat} (hi : i < n) : w.cell? ⟨g, i, none⟩ = some (.int .u32 (u (f i))) := h.at_ hi
/-- the object of a digest: its words, its block, how much of it is used, how much was written -/
def hf (st : Nat → UInt32) (bl : Nat → UInt8) (used size : Int) : Nat → Value := fun i => if i < 8 then uv (st i) else if i < 72 then .int .u8 (u (bl (i - 8)).toUInt32) else if i = 72 then .int .i64 used else .int .u64 size
theorem hf_st {st : Nat → UInt32} {bl : Nat → UInt8} {used size : Int} {i : Nat} (h : i < 8) : hf st bl used size i = .int .u32 (u (st i)) := by simp [hf, h, uv]
theorem hf_bl {st : Nat → UInt32} {bl : Nat → UInt8} {used size : Int} {i : Nat} (h : i < 64) : hf st bl used size (8 + i) = .int .u8 (u (bl i).toUInt32) := by
  unfold hf
  rw [if_neg (by omega), if_pos (by omega), show 8 + i - 8 = i by omega]
theorem hf_used {st : Nat → UInt32} {bl : Nat → UInt8} {used size : Int} : hf st bl used size 72 = .int .i64 used := by simp [hf]
theorem hf_size {st : Nat → UInt32} {bl : Nat → UInt8} {used size : Int} : hf st bl used size 73 = .int .u64 size := by simp [hf]

/-- the word at a place of a block -/
def wd (bl : Nat → UInt8) (t : Nat) : UInt32 := (((bl (4 * t)).toUInt32 <<< 24) ||| ((bl (4 * t + 1)).toUInt32 <<< 16) ||| ((bl (4 * t + 2)).toUInt32 <<< 8)) ||| (bl (4 * t + 3)).toUInt32
def sg0 (x : UInt32) : UInt32 := rotr x 7 ^^^ rotr x 18 ^^^ x >>> 3
def sg1 (x : UInt32) : UInt32 := rotr x 17 ^^^ rotr x 19 ^^^ x >>> 10
/-- the table of the 64 words, the first eight -/
def kTab : List UInt32 := [0x428a2f98, 0x71374491, 0xb5c0fbcf, 0xe9b5dba5, 0x3956c25b, 0x59f111f1, 0x923f82a4, 0xab1c5ed5, 0xd807aa98, 0x12835b01, 0x243185be, 0x550c7dc3, 0x72be5d74, 0x80deb1fe, 0x9bdc06a7, 0xc19bf174, 0xe49b69c1, 0xefbe4786, 0x0fc19dc6, 0x240ca1cc, 0x2de92c6f, 0x4a7484aa, 0x5cb0a9dc, 0x76f988da, 0x983e5152, 0xa831c66d, 0xb00327c8, 0xbf597fc7, 0xc6e00bf3, 0xd5a79147, 0x06ca6351, 0x14292967, 0x27b70a85, 0x2e1b2138, 0x4d2c6dfc, 0x53380d13, 0x650a7354, 0x766a0abb, 0x81c2c92e, 0x92722c85, 0xa2bfe8a1, 0xa81a664b, 0xc24b8b70, 0xc76c51a3, 0xd192e819, 0xd6990624, 0xf40e3585, 0x106aa070, 0x19a4c116, 0x1e376c08, 0x2748774c, 0x34b0bcb5, 0x391c0cb3, 0x4ed8aa4a, 0x5b9cca4f, 0x682e6ff3, 0x748f82ee, 0x78a5636f, 0x84c87814, 0x8cc70208, 0x90befffa, 0xa4506ceb, 0xbef9a3f7, 0xc67178f2]
def hTab : List UInt32 := [0x6a09e667, 0xbb67ae85, 0x3c6ef372, 0xa54ff53a, 0x510e527f, 0x9b05688c, 0x1f83d9ab, 0x5be0cd19]
def kw (i : Nat) : UInt32 := kTab.getD i 0
def h0 (i : Nat) : UInt32 := hTab.getD i 0
/-- what the two package variables hold -/
structure TabOk (w : World) : Prop where
  k : ∀ i, i < 64 → w.cell? ⟨1, i, none⟩ = some (.int .u32 (u (kw i)))
  h : ∀ i, i < 8 → w.cell? ⟨0, i, none⟩ = some (.int .u32 (u (h0 i)))
theorem TabOk.frm {S : Nat → Prop} {w w' : World} (h : TabOk w) (hf : Frm S w w') (h0 : ¬ S 0) (h1 : ¬ S 1) : TabOk w' :=
  ⟨fun i hi => hf.cell_some (h.k i hi) h1, fun i hi => hf.cell_some (h.h i hi) h0⟩
theorem TabOk.frm' {w w' : World} (h : TabOk w) (hf : Frm noB w w') : TabOk w' := h.frm hf (fun h => h) (fun h => h)
theorem TabOk.size {w : World} (h : TabOk w) : 2 ≤ w.heap.size := by
  have := World.block_lt_of_cell? w _ (h.k 0 (by decide))
  exact this

/-- the words of the schedule, one out of those ahead of it -/
def nxt (f : Nat → UInt32) (t : Nat) : UInt32 := f (t - 16) + sg0 (f (t - 15)) + f (t - 7) + sg1 (f (t - 2))
/-- f is the schedule of the block bl up to n -/
structure IsSched (bl : Nat → UInt8) (f : Nat → UInt32) (n : Nat) : Prop where
  lo : ∀ j, j < 16 → f j = wd bl j
  hi : ∀ j, 16 ≤ j → j < n → f j = nxt f j
theorem IsSched.put {bl : Nat → UInt8} {f : Nat → UInt32} {n : Nat} (h : IsSched bl f n) (hn : 16 ≤ n) : IsSched bl (fun i => if i = n then nxt f n else f i) (n + 1) := by
  have key : ∀ j, 16 ≤ j → j ≤ n → nxt (fun i => if i = n then nxt f n else f i) j = nxt f j := fun j hj hjn => by
    simp only [nxt]
    rw [if_neg (by omega), if_neg (by omega), if_neg (by omega), if_neg (by omega)]
  refine ⟨fun j hj => by show (if j = n then nxt f n else f j) = _; rw [if_neg (by omega)]; exact h.lo j hj, fun j hj hjn => ?_⟩
  rw [key j hj (by omega)]
  by_cases e : j = n
  · subst e; simp
  · simp only [if_neg e]
    exact h.hi j hj (by omega)
theorem IsSched.uniq {bl : Nat → UInt8} {f f' : Nat → UInt32} {n : Nat} (h : IsSched bl f n) (h' : IsSched bl f' n) : ∀ j, j < n → f j = f' j := by
  intro j
  induction j using Nat.strongRecOn with
  | _ j ih =>
    intro hj
    by_cases e : j < 16
    · rw [h.lo j e, h'.lo j e]
    · rw [h.hi j (by omega) hj, h'.hi j (by omega) hj]
      simp only [nxt]
      rw [ih (j - 16) (by omega) (by omega), ih (j - 15) (by omega) (by omega), ih (j - 7) (by omega) (by omega), ih (j - 2) (by omega) (by omega)]
/-- the schedule, n words of it, as a list -/
def schedL (bl : Nat → UInt8) : Nat → List UInt32
  | 0 => []
  | n + 1 => schedL bl n ++ [if n < 16 then wd bl n else nxt (fun i => (schedL bl n).getD i 0) n]
def sched (bl : Nat → UInt8) (t : Nat) : UInt32 := (schedL bl 64).getD t 0
theorem schedL_length (bl : Nat → UInt8) : ∀ n, (schedL bl n).length = n
  | 0 => rfl
  | n + 1 => by simp [schedL, schedL_length bl n]
theorem schedL_at (bl : Nat → UInt8) (i : Nat) : ∀ n, i < n → (schedL bl n).getD i 0 = (if i < 16 then wd bl i else nxt (fun j => (schedL bl n).getD j 0) i)
  | 0, h => absurd h (by omega)
  | n + 1, h => by
    have hl := schedL_length bl n
    have low : ∀ j, j < n → (schedL bl (n + 1)).getD j 0 = (schedL bl n).getD j 0 := fun j hj => by
      simp only [schedL, List.getD_eq_getElem?_getD]
      rw [List.getElem?_append_left (by omega)]
    by_cases e : i = n
    · subst e
      have e1 : (schedL bl (i + 1)).getD i 0 = if i < 16 then wd bl i else nxt (fun j => (schedL bl i).getD j 0) i := by
        conv => lhs; simp only [schedL, List.getD_eq_getElem?_getD]
        rw [List.getElem?_append_right (by omega), hl]
        simp
      rw [e1]
      by_cases q : i < 16
      · rw [if_pos q, if_pos q]
      · rw [if_neg q, if_neg q]
        simp only [nxt]
        rw [low (i - 16) (by omega), low (i - 15) (by omega), low (i - 7) (by omega), low (i - 2) (by omega)]
    · rw [low i (by omega), schedL_at bl i n (by omega)]
      by_cases q : i < 16
      · rw [if_pos q, if_pos q]
      · rw [if_neg q, if_neg q]
        simp only [nxt]
        rw [low (i - 16) (by omega), low (i - 15) (by omega), low (i - 7) (by omega), low (i - 2) (by omega)]
theorem sched_is (bl : Nat → UInt8) : IsSched bl (sched bl) 64 :=
  ⟨fun j hj => by have := schedL_at bl j 64 (by omega); rw [if_pos hj] at this; exact this, fun j hj hjn => by have := schedL_at bl j 64 hjn; rw [if_neg (by omega)] at this; exact this⟩
theorem IsSched.eq {bl : Nat → UInt8} {f : Nat → UInt32} (h : IsSched bl f 64) : ∀ j, j < 64 → f j = sched bl j := h.uniq (sched_is bl)

def S8.get (s : S8) (i : Nat) : UInt32 := s.list.getD i 0
def S8.of (st : Nat → UInt32) : S8 := ⟨st 0, st 1, st 2, st 3, st 4, st 5, st 6, st 7⟩
/-- k steps -/
def steps (bl : Nat → UInt8) (s : S8) : Nat → S8
  | 0 => s
  | k + 1 => stp (steps bl s k) (kw k + sched bl k)
/-- the words behind a block -/
def comp (st : Nat → UInt32) (bl : Nat → UInt8) (j : Nat) : UInt32 := st j + (steps bl (S8.of st) 64).get j
theorem S8.arr8 (s : S8) : arr 8 (ws s.get) = #[.int .u32 (u s.a), .int .u32 (u s.b), .int .u32 (u s.c), .int .u32 (u s.d), .int .u32 (u s.e), .int .u32 (u s.f), .int .u32 (u s.g), .int .u32 (u s.h)] := rfl
theorem Blk.put8 {w : World} {g : Nat} {t : TypeId} {f : Nat → Value} (h : Blk w g t (arr 8 f)) (q : S8) : Blk ((((((((w.setCell ⟨g, 0, none⟩ (.int .u32 (u q.a))).setCell ⟨g, 1, none⟩ (.int .u32 (u q.b))).setCell ⟨g, 2, none⟩ (.int .u32 (u q.c))).setCell ⟨g, 3, none⟩ (.int .u32 (u q.d))).setCell ⟨g, 4, none⟩ (.int .u32 (u q.e))).setCell ⟨g, 5, none⟩ (.int .u32 (u q.f))).setCell ⟨g, 6, none⟩ (.int .u32 (u q.g))).setCell ⟨g, 7, none⟩ (.int .u32 (u q.h))) g t (arr 8 (ws q.get)) := by
  refine Blk.same ((((((((h.put 0 (.int .u32 (u q.a))).put 1 (.int .u32 (u q.b))).put 2 (.int .u32 (u q.c))).put 3 (.int .u32 (u q.d))).put 4 (.int .u32 (u q.e))).put 5 (.int .u32 (u q.f))).put 6 (.int .u32 (u q.g))).put 7 (.int .u32 (u q.h))) fun i hi => ?_
  match i, hi with
  | 0, _ => rfl
  | 1, _ => rfl
  | 2, _ => rfl
  | 3, _ => rfl
  | 4, _ => rfl
  | 5, _ => rfl
  | 6, _ => rfl
  | 7, _ => rfl
end Go.Proofs.YtkhakddecmgejaaDoor
