/-
  A list of comings, opened.
-/
import Derived.Test.YtjnoddbhfcpniaaBulk
import Derived.Test.YtjnoddbhfcpniaaFirst
import Derived.Deep.SlicePairs
import Derived.Lib.SmallJoins
namespace Go.Proofs.Ytjnoddbhfcpniaa
open Go.ChangeShapes Go.WideShapes Go.ChangeAt Go.RowKit
set_option linter.unusedVariables false
set_option linter.unusedSimpArgs false

theorem cells_com : Try.prog.cellsOf 44 = 2 := by kernel_rfl
theorem cells_int : Try.prog.cellsOf 3 = 1 := by kernel_rfl
theorem cells_bs : Try.prog.cellsOf 35 = 1 := by kernel_rfl

theorem opened_comings {H : Type} {enc : TypeId × Value → H} {W : World} {n : Nat} {v : Value} {y : DataW H × List MemPlace}
    (h : DataW.trod enc Try.prog W 0 (fun _ => true) true n 22 [v] = some y) :
    ∃ A cap, ∃ l : Coms, v = .slice A l.length cap ∧ RdCom W A l (fun k => k < W.heap.size) ∧ l.length ≤ Rows.uptoBulk y.1 ∧ ∀ x ∈ l, x.2.length ≤ Rows.uptoBulk y.1 := by
  rcases Go.Deep.open_slice_pairs Try.underlying22 Try.underlying44 cells_com rfl rfl cells_int cells_bs h with ⟨hcs, hx⟩ | ⟨a, len, cap, m, n', V0, V1, D0, D1, P0, P1, hcs, _, hl, hm, hmm, hx, hat⟩
  · injection hcs with hv
    subst hv
    exact ⟨none, 0, [], rfl, fun i h => absurd h (by simp), by simp, by simp⟩
  · injection hcs with hv
    subst hv
    subst hx
    simp only [if_true] at hmm
    have each : ∀ i, i < len → ∃ q : Int × List UInt8, V0 i = .int .i64 q.1 ∧ ∃ A' c, V1 i = .slice A' q.2.length c ∧ Rd W A' (q.2.map bv) ∧ q.2.length ≤ Rows.uptoBulk (D1 i) := by
      intro i hi
      obtain ⟨_, _, h0, h1⟩ := hat i (by omega)
      obtain ⟨z, hz, _, _⟩ := DataW.trod_int Try.underlying3 h0
      injection hz with hz
      obtain ⟨a', l', c', hs⟩ := Go.Joins.slice_form Try.underlying35 h1
      injection hs with hs
      rw [hs] at h1
      obtain ⟨xs, rfl, _, hr, he⟩ := opened_bytes (trod_one h1)
      exact ⟨(z, xs), hz, a', c', hs, hr, bulk_short he⟩
    obtain ⟨q, hq⟩ := Go.Deep.choose_lt each
    have hD : ∀ i, i < len → Rows.uptoBulk (D1 i) ≤ Rows.uptoBulk (DataW.slice ((List.range len).map fun i => DataW.agg [D0 i, D1 i]) ((List.range (m - len)).map fun j => DataW.agg [D0 (len + j), D1 (len + j)])) := fun i hi =>
      Nat.le_trans (bulk_part (l := [D0 i, D1 i]) (by simp)) (bulk_elem (List.mem_map.2 ⟨i, by simpa using hi, rfl⟩))
    refine ⟨some a, cap, (List.range len).map q, by simp, fun i hi => ?_, ?_, fun x hx => ?_⟩
    · have hi : i < len := by simpa using hi
      obtain ⟨g0, _, _, _⟩ := hat 0 (by omega)
      have ha := spot_none (show W.cell? a = _ by simpa [Addr.add] using g0)
      obtain ⟨c0, c1, _, _⟩ := hat i (by omega)
      clear hat g0
      obtain ⟨ab, ao, rfl⟩ : ∃ ab ao, a = ⟨ab, ao, none⟩ := ⟨_, _, ha⟩
      clear ha
      obtain ⟨q0, A', c', q1, hr, _⟩ := hq i hi
      have add : ∀ k, (⟨ab, ao, none⟩ : Addr).add k = ⟨ab, ao + k, none⟩ := fun k => by
        unfold Addr.add; split <;> simp_all
      rw [add] at c0 c1
      rw [q0] at c0
      rw [q1] at c1
      simp only [List.getElem_map, List.getElem_range]
      exact ⟨ab, ao, A', c', rfl, c0, by rw [← c1, Nat.add_assoc], hr, World.block_lt_of_cell? W _ c0, fun hne k hk => hr.lt (by simpa using List.length_pos_iff.2 hne) k hk⟩
    · simp only [List.length_map, List.length_range]
      exact bulk_short (.inr ⟨_, _, rfl, by simp⟩)
    · obtain ⟨i, hi, rfl⟩ := List.mem_map.1 hx
      have hi : i < len := by simpa using hi
      obtain ⟨_, _, _, _, _, hb⟩ := hq i hi
      exact Nat.le_trans hb (hD i hi)
end Go.Proofs.Ytjnoddbhfcpniaa
