/-
  What Spare made is written over.
-/
import Derived.Test.YtjnoddbhfcpniaaSpare
namespace Go.Proofs.Ytjnoddbhfcpniaa
open Go.RowKit
set_option linter.unusedVariables false
set_option linter.unusedSimpArgs false

theorem byte_u8 {n : Int} (h0 : 0 ≤ n) (h1 : n ≤ 255) : bv (UInt8.ofNat n.toNat) = .int .u8 n := by
  unfold bv
  congr 1
  rw [UInt8.toNat_ofNat']
  omega
section
variable {w : World} {g j : Nat} {xs : List UInt8}
theorem Spared.set_ (h : Spared w g xs) (hj : j < xs.length) {n : Int} {x : UInt8} (hx : bv x = .int .u8 n) : Spared (w.setCell ⟨g, j, none⟩ (.int .u8 n)) g (xs.set j x) := by
  obtain ⟨cs, h1, h2, h3, h4⟩ := h
  refine ⟨_, h1.set_ j (.int .u8 n), by simpa using h2, fun r hr => ?_, fun r hr hr' => ?_⟩
  · rw [Array.getElem?_setIfInBounds]
    by_cases e : j = r
    · subst e
      rw [if_pos rfl, if_pos (by omega)]
      simp [hx]
    · rw [if_neg e, h3 r (by simpa using hr)]
      simp [e]
  · simp only [List.length_set] at hr hr'
    rw [Array.getElem?_setIfInBounds, if_neg (by omega)]
    exact h4 r hr hr'
theorem Spared.put (h : Spared w g xs) (hj : j < xs.length) {n : Int} (h0 : 0 ≤ n) (h1 : n ≤ 255) : ∃ zs, zs.length = xs.length ∧ Spared (w.setCell ⟨g, j, none⟩ (.int .u8 n)) g zs :=
  ⟨_, by simp, h.set_ hj (byte_u8 h0 h1)⟩
theorem Spared.at_ (h : Spared w g xs) (hj : j < xs.length) : ∃ n : Int, w.cell? ⟨g, j, none⟩ = some (.int .u8 n) ∧ w.frozen? ⟨g, j, none⟩ = false := by
  obtain ⟨cs, h1, h2, h3, h4⟩ := h
  exact ⟨_, by rw [h1.cell j, h3 j hj]; rfl, h1.frozen j⟩
end
end Go.Proofs.Ytjnoddbhfcpniaa
