/-
  Blocks that read as a function. No program in sight.
-/
import Derived.Test.YtjnoddbhfcpniaaRef
import Derived.Test.YtjnoddbhfcpniaaBlk
namespace Go.Proofs.Ytjnoddbhfcpniaa
open Go.RowKit
set_option linter.unusedVariables false
set_option linter.unusedSimpArgs false

/-- n cells, as a function says -/
def arr (n : Nat) (f : Nat → Value) : Array Value := ((List.range n).map f).toArray
theorem arr_at {n : Nat} {f : Nat → Value} {i : Nat} (h : i < n) : (arr n f)[i]? = some (f i) := by
  simp [arr, h]
theorem arr_size (n : Nat) (f : Nat → Value) : (arr n f).size = n := by simp [arr]
theorem arr_congr {n : Nat} {f g : Nat → Value} (h : ∀ i, i < n → f i = g i) : arr n f = arr n g := by
  unfold arr
  rw [List.map_congr_left (fun i hi => h i (by simpa using hi))]
theorem arr_set (n : Nat) (f : Nat → Value) (k : Nat) (v : Value) : (arr n f).setIfInBounds k v = arr n (fun i => if i = k then v else f i) := by
  apply Array.ext_getElem?
  intro i
  rw [Array.getElem?_setIfInBounds]
  by_cases e : k = i
  · subst e
    by_cases h : k < n
    · simp [arr, h]
    · simp [arr, h]
  · by_cases h : i < n
    · simp [arr, h, e, Ne.symm e]
    · simp [arr, h, e]
theorem Blk.at_ {w : World} {g : Nat} {t : TypeId} {n : Nat} {f : Nat → Value} (h : Blk w g t (arr n f)) {i : Nat} (hi : i < n) : w.cell? ⟨g, i, none⟩ = some (f i) := by
  rw [h.cell, arr_at hi]
theorem Blk.put {w : World} {g : Nat} {t : TypeId} {n : Nat} {f : Nat → Value} (h : Blk w g t (arr n f)) (k : Nat) (v : Value) : Blk (w.setCell ⟨g, k, none⟩ v) g t (arr n (fun i => if i = k then v else f i)) := by
  have := h.set_ k v
  rwa [arr_set] at this
theorem Blk.same {w : World} {g : Nat} {t : TypeId} {n : Nat} {f f' : Nat → Value} (h : Blk w g t (arr n f)) (e : ∀ i, i < n → f i = f' i) : Blk w g t (arr n f') := by
  rwa [arr_congr e] at h
theorem arr_replicate (n : Nat) (z : Value) : (List.replicate n z).toArray = arr n (fun _ => z) := by
  apply Array.ext_getElem?
  intro i
  by_cases h : i < n
  · rw [arr_at h]; simp [h]
  · simp [arr, h]
end Go.Proofs.Ytjnoddbhfcpniaa
