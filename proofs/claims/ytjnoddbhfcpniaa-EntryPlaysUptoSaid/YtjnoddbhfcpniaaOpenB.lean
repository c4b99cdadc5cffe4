/-
  An argument of type []byte, opened.
-/
import Derived.Test.YtjnoddbhfcpniaaRef
import Derived.ProofKit
import Derived.OpenShut
namespace Go.Proofs.Ytjnoddbhfcpniaa
open Go.ChangeShapes Go.WideShapes Go.ChangeAt Go.RowKit
set_option linter.unusedVariables false
set_option linter.unusedSimpArgs false

theorem laidOut : laidOutB Try.prog = true := by kernel_rfl
theorem cells_u8 : Try.prog.cellsOf 5 = 1 := by kernel_rfl

theorem spot_none {w : World} {a : Addr} {v : Value} (h : w.cell? a = some v) : a = ⟨a.block, a.off, none⟩ := by
  obtain ⟨b, o, s⟩ := a
  cases s with
  | none => rfl
  | some s =>
    exfalso
    simp only [World.cell?] at h
    split at h <;> simp at h
theorem byte_wf {n : Int} (h : (Lit.int .u8 n).wf = true) : bv (UInt8.ofNat n.toNat) = .int .u8 n := by
  have h1 : IntKind.u8.min = 0 := rfl
  have h2 : IntKind.u8.max = 255 := rfl
  simp only [Lit.wf, Bool.and_eq_true, decide_eq_true_eq] at h
  unfold bv
  congr 1
  rw [UInt8.toNat_ofNat']
  omega
theorem opened_bytes {H : Type} {enc : TypeId × Value → H} {W : World} {a0 : Option Addr} {len cap : Nat} {d0 : DataW H} {p : List MemPlace}
    (h0 : DataW.Trod enc Try.prog W 0 (fun _ => true) true 35 (.slice a0 len cap) d0 p) :
    ∃ xs : List UInt8, xs.length = len ∧ len ≤ cap ∧ Rd W a0 (xs.map bv) ∧ ((d0 = .nil ∧ len = 0) ∨ ∃ elems spare, d0 = .slice elems spare ∧ elems.length = len) := by
  obtain ⟨fuel, hf⟩ := h0
  rcases open_ints Try.underlying35 Try.underlying5 cells_u8 hf with ⟨hcs, hx⟩ | ⟨a, len', cap', zs, hcs, _, hl, hm, hz, hx, hcell, hwz⟩
  · simp [Value.cells] at hcs
    obtain ⟨rfl, rfl, rfl⟩ := hcs
    simp only [Prod.mk.injEq] at hx
    obtain ⟨rfl, rfl⟩ := hx
    exact ⟨[], rfl, Nat.le_refl _, Rd.nil _ _, .inl ⟨rfl, rfl⟩⟩
  · simp [Value.cells] at hcs
    obtain ⟨rfl, rfl, rfl⟩ := hcs
    simp only [Prod.mk.injEq] at hx
    obtain ⟨rfl, rfl⟩ := hx
    simp only [if_true] at hz
    refine ⟨(zs.take len).map fun z => UInt8.ofNat z.toNat, by simp; omega, by omega, fun i hi => ?_, .inr ⟨_, _, rfl, by simp [lits]; omega⟩⟩
    simp only [List.length_map, List.length_take] at hi
    have h0 := hcell 0 (by omega)
    have ha := spot_none (show W.cell? a = _ from h0)
    refine ⟨a.block, a.off, by rw [← ha], ?_⟩
    have hi2 := hcell i (by omega)
    have e : a.add i = ⟨a.block, a.off + i, none⟩ := by
      rw [ha]
      unfold Addr.add
      split
      · rename_i h; subst h; rfl
      · rfl
    rw [e] at hi2
    rw [hi2]
    have hz2 : zs.getD i 0 = zs[i] := by simp [List.getD, show i < zs.length by omega]
    rw [hz2]
    simp only [List.getElem_map, List.getElem_take]
    rw [byte_wf (hwz _ (List.getElem_mem _))]
end Go.Proofs.Ytjnoddbhfcpniaa
