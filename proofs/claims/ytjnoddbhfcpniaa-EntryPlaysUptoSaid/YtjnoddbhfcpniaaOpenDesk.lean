/-
  EntryPlays: a Desk, opened.
-/
import Derived.Test.YtjnoddbhfcpniaaOpenSt
namespace Go.Proofs.Ytjnoddbhfcpniaa
open Go.ChangeShapes Go.WideShapes Go.ChangeAt Go.RowKit
set_option linter.unusedVariables false
set_option linter.unusedSimpArgs false

theorem dcells_n : Try.prog.cellsOf 3 = 1 := by kernel_rfl
theorem dcells_s : Try.prog.cellsOf 56 = 1 := by kernel_rfl
theorem dcells_a : Try.prog.cellsOf 55 = 2 := by kernel_rfl
theorem dcells_desk : Try.prog.cellsOf 58 = 5 := by kernel_rfl
theorem RdSt.mono {w : World} {A : Option Addr} {l : List PStep} {n n' : Nat} (h : RdSt w A l n) (hn : n ≤ n') : RdSt w A l n' := by
  intro i hi
  obtain ⟨b, off, A', c, Ar, cr, hA, h0, h1, h2, h3, h4, h5, h6, hr, hrr, b1, b2, b3⟩ := h i hi
  exact ⟨b, off, A', c, Ar, cr, hA, h0, h1, h2, h3, h4, h5, h6, hr, hrr, Nat.le_trans b1 hn, Nat.le_trans b2 hn, fun x hx => Nat.le_trans (b3 x hx) hn⟩
set_option maxRecDepth 100000 in
theorem opened_desk {H : Type} {enc : TypeId × Value → H} {W : World} {cs : Array Value} {d : DataW H} {p : List MemPlace}
    (h0 : DataW.Trod enc Try.prog W 0 (fun _ => true) true 58 (.agg cs) d p) :
    ∃ z1 z2 c m : Int, ∃ A, ∃ l : List PStep, ∃ cap, cs = #[.int .i64 z1, .int .i64 z2, .int .i64 c, .int .i64 m, .slice A l.length cap] ∧ RdSt W A l (Rows.uptoBulk d) ∧ l.length ≤ Rows.uptoBulk d := by
  obtain ⟨fuel, h⟩ := h0
  obtain ⟨xs, k, hk, hxy, hl, hxl, hf⟩ := DataW.trod_struct Try.underlying58 h
  simp only [Value.cells] at hl hf
  rw [dcells_desk] at hl
  simp only [Prod.mk.injEq] at hxy
  obtain ⟨hd, hp⟩ := hxy
  obtain ⟨a0, a1, a2, a3, a4, hcs⟩ : ∃ a0 a1 a2 a3 a4, cs.toList = [a0, a1, a2, a3, a4] := by
    match hc : cs.toList, hl with
    | [a0, a1, a2, a3, a4], _ => exact ⟨a0, a1, a2, a3, a4, rfl⟩
  obtain ⟨y0, y1, y2, y3, hxs⟩ : ∃ y0 y1 y2 y3, xs = [y0, y1, y2, y3] := by
    match xs, hxl with
    | [y0, y1, y2, y3], _ => exact ⟨y0, y1, y2, y3, rfl⟩
  subst hxs
  rw [hcs] at hf
  have f0 : DataW.trod enc Try.prog W 0 (fun _ => true) true k 55 (List.take (Try.prog.cellsOf 55) [a0, a1, a2, a3, a4]) = some y0 := hf 0 _ rfl
  have f1 := hf 1 _ rfl
  have f2 := hf 2 _ rfl
  have f3 := hf 3 _ rfl
  simp only [dcells_n, dcells_s, dcells_a, List.drop_zero, List.drop_succ_cons, List.take_succ_cons, List.take_zero, List.getElem?_cons_zero, List.getElem?_cons_succ] at f0 f1 f2 f3
  obtain ⟨c, hc1, _, _⟩ := DataW.trod_int Try.underlying3 f1
  obtain ⟨m, hm1, _, _⟩ := DataW.trod_int Try.underlying3 f2
  injection hc1 with hc1
  injection hm1 with hm1
  subst hc1; subst hm1
  obtain ⟨A, cap, l, rfl, hr, hb⟩ := opened_steps f3
  have hbl : Rows.uptoBulk y3.1 ≤ Rows.uptoBulk d := by
    rw [hd]
    have h1 : y3.1 ∈ ([y0, y1, y2, y3] : List _).map (·.1) := List.mem_map.2 ⟨y3, by simp, rfl⟩
    have := bulk_mem h1
    simp only [Rows.uptoBulk]
    omega
  obtain ⟨zs, m0, _, e0, _, hl0, hel⟩ := DataW.trod_array Try.underlying55 f0
  obtain ⟨u0, u1, hzs⟩ : ∃ u0 u1, zs = [u0, u1] := by
    match zs, hl0 with
    | [u0, u1], _ => exact ⟨u0, u1, rfl⟩
  subst hzs
  have g0 := hel 0 (by decide)
  have g1 := hel 1 (by decide)
  simp only [dcells_n, dcells_s, dcells_a, List.drop_zero, List.drop_succ_cons, List.take_succ_cons, List.take_zero, List.getElem?_cons_zero, List.getElem?_cons_succ, Nat.zero_mul, Nat.one_mul] at g0 g1
  obtain ⟨z1, hz1, _, _⟩ := DataW.trod_int Try.underlying3 g0
  obtain ⟨z2, hz2, _, _⟩ := DataW.trod_int Try.underlying3 g1
  injection hz1 with hz1
  injection hz2 with hz2
  subst hz1; subst hz2
  exact ⟨z1, z2, c, m, A, l, cap, Array.ext' hcs, RdSt.mono hr hbl, Nat.le_trans hb hbl⟩
end Go.Proofs.Ytjnoddbhfcpniaa
