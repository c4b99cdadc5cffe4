/-
  One row more behind rows of the call's own.
-/
import Derived.Test.YtjnoddbhfcpniaaOwn
namespace Go.Proofs.Ytjnoddbhfcpniaa
open Go.RowKit
set_option linter.unusedVariables false
set_option linter.unusedSimpArgs false

/-- one row more -/
theorem OwnedRows.push {w w1 w2 : World} {base : Nat} {v v2 u : Value} {vs : List Value} {xss : List (List UInt8)} {l : List UInt8} (h : OwnedRows w base v vs xss) (hb : base ≤ w.heap.size) (f1 : Frm noB w w1) (hu : w1.ownsRow w.heap.size 5 1 u l.length (l.map bv))
    (h2 : w2.ownsRow base 35 1 v2 (vs.length + 1) (vs ++ [u])) (f2 : Frm (oB v) w1 w2) : OwnedRows w2 base v2 (vs ++ [u]) (xss ++ [l]) := by
  have hl := h.len
  have hl1 := own_lt hu
  have hrow := own_frm' h.row f1
  have last : ∀ j (hj : j < (vs ++ [u]).length), ¬ j < vs.length → (vs ++ [u])[j] = u := fun j hj e => by
    have : j = vs.length := by simp at hj; omega
    subst this; simp
  have old : ∀ j (e : j < vs.length), ∀ q, oB vs[j] q → q < w.heap.size := fun j e q hq => (own_lt (h.each j e (by omega)) q hq).2
  refine ⟨by simpa using h2, by simp [hl], fun i hi hi' => ?_, fun i j hi hj q hij hq => ?_⟩
  · by_cases e : i < vs.length
    · have e' : i < xss.length := by omega
      simp only [List.getElem_append_left e, List.getElem_append_left e']
      have hh := own_frm' (h.each i e e') f1
      exact own_frm hh f2 fun q hq => own_own_ne hh hrow (by decide) hq
    · have e1 : i = vs.length := by simp at hi; omega
      have e4 : (xss ++ [l])[i] = l := by
        rw [List.getElem_append_right (by omega)]; simp
      rw [last i hi e, e4]
      exact own_base (own_frm hu f2 fun q hq h' => by have := (hl1 q hq).1; have := (own_lt h.row q h').2; omega) fun q hq => by have := (hl1 q hq).1; omega
  · by_cases e : i < vs.length
    · simp only [List.getElem_append_left e] at hq
      by_cases e' : j < vs.length
      · simp only [List.getElem_append_left e']
        exact h.apart i j e e' q hij hq
      · rw [last j hj e']
        intro h'
        have := (hl1 q h').1
        have := old i e q hq
        omega
    · rw [last i hi e] at hq
      have e' : j < vs.length := by simp at hi hj; omega
      simp only [List.getElem_append_left e']
      intro h'
      have := (hl1 q hq).1
      have := old j e' q h'
      omega
theorem OwnedRows.nil_ (w : World) (base : Nat) : OwnedRows w base (.slice none 0 0) [] [] := ⟨World.ownsRow_nil _ _ _ _, rfl, fun i h => absurd h (by simp), fun i j h => absurd h (by simp)⟩
theorem OwnedRows.frm' {w w' : World} {base : Nat} {v : Value} {vs : List Value} {xss : List (List UInt8)} (h : OwnedRows w base v vs xss) (hf : Frm noB w w') : OwnedRows w' base v vs xss :=
  ⟨own_frm' h.row hf, h.len, fun i hi hi' => own_frm' (h.each i hi hi') hf, h.apart⟩
theorem OwnedRows.frm {S : Nat → Prop} {w w' : World} {base : Nat} {v : Value} {vs : List Value} {xss : List (List UInt8)} (h : OwnedRows w base v vs xss) (hf : Frm S w w') (hv : ∀ k, oB v k → ¬ S k) (hr : ∀ i (hi : i < vs.length) k, oB vs[i] k → ¬ S k) : OwnedRows w' base v vs xss :=
  ⟨own_frm h.row hf hv, h.len, fun i hi hi' => own_frm (h.each i hi hi') hf (hr i hi), h.apart⟩
end Go.Proofs.Ytjnoddbhfcpniaa
