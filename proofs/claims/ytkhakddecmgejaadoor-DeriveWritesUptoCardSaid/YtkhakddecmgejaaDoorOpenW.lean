/-
  A script of steps of three Macs, opened.
-/
import Derived.Test.YtkhakddecmgejaaDoorOpenO
import Derived.Test.YtkhakddecmgejaaDoorMacs3
namespace Go.Proofs.YtkhakddecmgejaaDoor
open Go.ChangeShapes Go.WideShapes Go.ChangeAt Go.RowKit
set_option linter.unusedVariables false
set_option linter.unusedSimpArgs false

theorem cells_wop : Tryd.prog.cellsOf 63 = 3 := by kernel_rfl
theorem opened_wops {H : Type} {enc : TypeId × Value → H} {W : World} {n : Nat} {v : Value} {y : DataW H × List MemPlace}
    (h : DataW.trod enc Tryd.prog W 0 (fun _ => true) true n 56 [v] = some y) :
    ∃ A cap, ∃ l : List WOp, v = .slice A l.length cap ∧ RdW W A l ∧ l.length ≤ Rows.uptoBulk y.1 ∧ bringsW l l.length ≤ Rows.uptoBulk y.1 := by
  rcases open_structs Tryd.underlying56 Tryd.underlying63 cells_wop (by kernel_rfl) h with ⟨hcs, hx⟩ | ⟨a, len, cap, n', V, D, hcs, hl, hm, ⟨sp, hx⟩, hat⟩
  · injection hcs with hv
    subst hv
    exact ⟨none, 0, [], rfl, fun i h => absurd h (by simp), by simp, by simp [bringsW]⟩
  · injection hcs with hv
    subst hv
    have each : ∀ i, i < len → ∃ q : WOp, V i 0 = .int .i64 q.on ∧ V i 1 = .int .i64 q.kind ∧ inI q.on ∧ inI q.kind ∧ ∃ A' c, V i 2 = .slice A' q.b.length c ∧ q.b.length ≤ c ∧ Rd W A' (q.b.map bv) ∧ q.b.length ≤ Rows.uptoBulk (D i 2) := by
      intro i hi
      obtain ⟨_, p0, h0⟩ := hat i (by omega) 0 _ rfl
      obtain ⟨_, p1, h1⟩ := hat i (by omega) 1 _ rfl
      obtain ⟨_, p2, h2⟩ := hat i (by omega) 2 _ rfl
      obtain ⟨z0, hz0, _, w0⟩ := DataW.trod_int Tryd.underlying3 h0
      obtain ⟨z1, hz1, _, w1⟩ := DataW.trod_int Tryd.underlying3 h1
      injection hz0 with hz0
      injection hz1 with hz1
      obtain ⟨a', l', c', hs⟩ := Go.Joins.slice_form Tryd.underlying29 h2
      injection hs with hs
      rw [hs] at h2
      obtain ⟨xs, rfl, hc, hr, he⟩ := opened_bytes (trod_one h2)
      exact ⟨⟨z0, z1, xs⟩, hz0, hz1, int64_of w0, int64_of w1, a', c', hs, hc, hr, bulk_short he⟩
    have inh : Inhabited WOp := ⟨⟨0, 0, []⟩⟩
    obtain ⟨q, hq⟩ := Go.Deep.choose_lt each
    have hb : Rows.uptoBulkAll ((List.range len).map fun i => DataW.agg ((List.range 3).map (D i))) ≤ Rows.uptoBulk y.1 := by
      rw [show y.1 = .slice ((List.range len).map fun i => .agg ((List.range 3).map (D i))) sp from hx]
      simp only [Rows.uptoBulk]
      omega
    refine ⟨some a, cap, (List.range len).map q, by simp, fun i hi => ?_, ?_, ?_⟩
    · have hi : i < len := by simpa using hi
      obtain ⟨g0, _⟩ := hat 0 (by omega) 0 _ rfl
      have hadd := fun k => addr_plain (show W.cell? a = _ by simpa [Addr.add] using g0) k
      obtain ⟨c0, _⟩ := hat i (by omega) 0 _ rfl
      obtain ⟨c1, _⟩ := hat i (by omega) 1 _ rfl
      obtain ⟨c2, _⟩ := hat i (by omega) 2 _ rfl
      have ha := spot_none (show W.cell? a = _ by simpa [Addr.add] using g0)
      rw [hadd] at c0 c1 c2
      obtain ⟨q0, q1, i0, i1, A', c', q2, hc', hr, hbk⟩ := hq i hi
      rw [q0] at c0
      rw [q1] at c1
      rw [q2] at c2
      simp only [List.getElem_map, List.getElem_range]
      refine ⟨a.block, a.off, A', c', by rw [← ha], ?_, ?_, ?_, i0, i1, hc', hr⟩
      · exact c0
      · rw [← c1]; congr 1
      · rw [← c2]; congr 1
    · have := bulk_length ((List.range len).map fun i => DataW.agg ((List.range 3).map (D i)))
      simp at this ⊢
      omega
    · unfold bringsW
      rw [List.take_length]
      refine Nat.le_trans (bulk_sum (fun x : WOp => x.b.length) _ ((List.range len).map fun i => DataW.agg ((List.range 3).map (D i))) (by simp) fun i hi hi' => ?_) hb
      have hi : i < len := by simpa using hi
      obtain ⟨_, _, _, _, A', c', _, _, _, hbk⟩ := hq i hi
      simp only [List.getElem_map, List.getElem_range]
      exact Nat.le_trans hbk (bulk_agg (List.mem_map.2 ⟨2, by simp, rfl⟩))
end Go.Proofs.YtkhakddecmgejaaDoor
