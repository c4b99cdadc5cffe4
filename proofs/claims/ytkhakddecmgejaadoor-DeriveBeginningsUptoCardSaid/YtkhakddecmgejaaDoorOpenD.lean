/-
  A Draw (three lists and a number), opened.
-/
import Derived.Test.YtkhakddecmgejaaDoorBulk
import Derived.Deep.Fields
import Derived.Deep.Slices
import Derived.Lib.SmallJoins
namespace Go.Proofs.YtkhakddecmgejaaDoor
open Go.ChangeShapes Go.WideShapes Go.ChangeAt Go.RowKit
set_option linter.unusedVariables false
set_option linter.unusedSimpArgs false

theorem wf_draw {n : Int} (h : (Lit.int .i64 n).wf = true) : -9223372036854775808 ≤ n ∧ n ≤ 9223372036854775807 := by
  have h1 : IntKind.i64.min = -9223372036854775808 := rfl
  have h2 : IntKind.i64.max = 9223372036854775807 := rfl
  simp only [Lit.wf, Bool.and_eq_true, decide_eq_true_eq] at h
  omega
theorem cells_bs : Tryd.prog.cellsOf 29 = 1 := by kernel_rfl
theorem cells_n : Tryd.prog.cellsOf 3 = 1 := by kernel_rfl
theorem cells_draw : Tryd.prog.cellsOf 75 = 4 := by kernel_rfl

set_option maxRecDepth 100000 in
theorem opened_draw {H : Type} {enc : TypeId × Value → H} {W : World} {cs : Array Value} {d : DataW H} {p : List MemPlace}
    (h0 : DataW.Trod enc Tryd.prog W 0 (fun _ => true) true 75 (.agg cs) d p) :
    ∃ (A B C : Option Addr) (salt secret info : List UInt8) (ca cb cc : Nat) (n : Int), cs = #[.slice A salt.length ca, .slice B secret.length cb, .slice C info.length cc, .int .i64 n] ∧
      Rd W A (salt.map bv) ∧ Rd W B (secret.map bv) ∧ Rd W C (info.map bv) ∧ salt.length ≤ ca ∧ secret.length ≤ cb ∧ info.length ≤ cc ∧ (-9223372036854775808 ≤ n ∧ n ≤ 9223372036854775807) ∧
      salt.length ≤ Rows.uptoBulk d ∧ secret.length ≤ Rows.uptoBulk d ∧ info.length ≤ Rows.uptoBulk d := by
  obtain ⟨fuel, h⟩ := h0
  obtain ⟨xs, k, hk, hxy, hl, hxl, hf⟩ := DataW.trod_struct Tryd.underlying75 h
  simp only [Value.cells] at hl hf
  rw [cells_draw] at hl
  simp only [Prod.mk.injEq] at hxy
  obtain ⟨hd, hp⟩ := hxy
  obtain ⟨a0, a1, a2, a3, hcs⟩ : ∃ a0 a1 a2 a3, cs.toList = [a0, a1, a2, a3] := by
    match hc : cs.toList, hl with
    | [a0, a1, a2, a3], _ => exact ⟨a0, a1, a2, a3, rfl⟩
  obtain ⟨y0, y1, y2, y3, hxs⟩ : ∃ y0 y1 y2 y3, xs = [y0, y1, y2, y3] := by
    match xs, hxl with
    | [y0, y1, y2, y3], _ => exact ⟨y0, y1, y2, y3, rfl⟩
  subst hxs
  rw [hcs] at hf
  have f0 := hf 0 _ rfl
  have f1 := hf 1 _ rfl
  have f2 := hf 2 _ rfl
  have f3 := hf 3 _ rfl
  simp only [cells_bs, cells_n, List.drop_zero, List.drop_succ_cons, List.take_succ_cons, List.take_zero, List.getElem?_cons_zero, List.getElem?_cons_succ] at f0 f1 f2 f3
  obtain ⟨A, l0, ca, e0⟩ := Go.Joins.slice_form Tryd.underlying29 f0
  obtain ⟨B, l1, cb, e1⟩ := Go.Joins.slice_form Tryd.underlying29 f1
  obtain ⟨C, l2, cc, e2⟩ := Go.Joins.slice_form Tryd.underlying29 f2
  injection e0 with e0
  injection e1 with e1
  injection e2 with e2
  subst e0; subst e1; subst e2
  obtain ⟨x0, rfl, c0, r0, q0⟩ := opened_bytes (trod_one f0)
  obtain ⟨x1, rfl, c1, r1, q1⟩ := opened_bytes (trod_one f1)
  obtain ⟨x2, rfl, c2, r2, q2⟩ := opened_bytes (trod_one f2)
  obtain ⟨n, hn, _, wn⟩ := DataW.trod_int Tryd.underlying3 f3
  injection hn with hn
  subst hn
  have hb : ∀ y ∈ [y0, y1, y2, y3], Rows.uptoBulk y.1 ≤ Rows.uptoBulk d := fun y hy => by
    rw [hd]
    have h1 : y.1 ∈ ([y0, y1, y2, y3] : List _).map (·.1) := List.mem_map.2 ⟨y, hy, rfl⟩
    have := bulk_mem h1
    simp only [Rows.uptoBulk]
    omega
  refine ⟨A, B, C, x0, x1, x2, ca, cb, cc, n, ?_, r0, r1, r2, c0, c1, c2, wf_draw wn, Nat.le_trans (bulk_short q0) (hb y0 (by simp)), Nat.le_trans (bulk_short q1) (hb y1 (by simp)), Nat.le_trans (bulk_short q2) (hb y2 (by simp))⟩
  apply Array.ext'
  exact hcs
end Go.Proofs.YtkhakddecmgejaaDoor
