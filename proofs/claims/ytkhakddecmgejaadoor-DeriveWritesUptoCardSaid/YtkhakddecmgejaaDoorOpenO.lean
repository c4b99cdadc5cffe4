/-
  A script of steps, opened.
-/
import Derived.Test.YtkhakddecmgejaaDoorOpenS
import Derived.Test.YtkhakddecmgejaaDoorTrio
namespace Go.Proofs.YtkhakddecmgejaaDoor
open Go.ChangeShapes Go.WideShapes Go.ChangeAt Go.RowKit
set_option linter.unusedVariables false
set_option linter.unusedSimpArgs false

theorem int64_of {n : Int} (h : (Lit.int .i64 n).wf = true) : inI n := by
  have h1 : IntKind.i64.min = -9223372036854775808 := rfl
  have h2 : IntKind.i64.max = 9223372036854775807 := rfl
  simp only [Lit.wf, Bool.and_eq_true, decide_eq_true_eq] at h
  unfold inI
  omega
theorem cells_op : Tryd.prog.cellsOf 50 = 4 := by kernel_rfl
theorem cells_i : Tryd.prog.cellsOf 3 = 1 := by kernel_rfl
theorem cells_b : Tryd.prog.cellsOf 29 = 1 := by kernel_rfl
theorem bulk_agg {H : Type} {l : List (DataW H)} {d : DataW H} (h : d ∈ l) : Rows.uptoBulk d ≤ Rows.uptoBulk (.agg l) := by
  have := bulk_mem h
  simp only [Rows.uptoBulk]
  omega
theorem bulk_sum {H : Type} {α : Type} (f : α → Nat) : ∀ (l : List α) (ds : List (DataW H)), l.length = ds.length → (∀ i (h : i < l.length) (h' : i < ds.length), f l[i] ≤ Rows.uptoBulk ds[i]) → (l.map f).sum ≤ Rows.uptoBulkAll ds
  | [], _, _, _ => by simp
  | x :: xs, [], h, _ => by simp at h
  | x :: xs, d :: ds, h, h' => by
    have h0 := h' 0 (by simp) (by simp)
    have ih := bulk_sum f xs ds (by simpa using h) fun i hi hi' => by
      have := h' (i + 1) (by simpa using hi) (by simpa using hi')
      simpa using this
    simp only [List.map_cons, List.sum_cons, Rows.uptoBulkAll]
    simp at h0
    omega
theorem addr_plain {w : World} {a : Addr} {v : Value} (h : w.cell? a = some v) (k : Nat) : a.add k = ⟨a.block, a.off + k, none⟩ := by
  have ha := spot_none h
  obtain ⟨b, o, s⟩ := a
  have hs : s = none := by injection ha
  subst hs
  unfold Addr.add
  split <;> simp_all

theorem opened_ops {H : Type} {enc : TypeId × Value → H} {W : World} {n : Nat} {v : Value} {y : DataW H × List MemPlace}
    (h : DataW.trod enc Tryd.prog W 0 (fun _ => true) true n 44 [v] = some y) :
    ∃ A cap, ∃ l : List POp, v = .slice A l.length cap ∧ RdOps W A l (fun k => k < W.heap.size) ∧ l.length ≤ Rows.uptoBulk y.1 ∧ brings l l.length ≤ Rows.uptoBulk y.1 := by
  rcases open_structs Tryd.underlying44 Tryd.underlying50 cells_op (by kernel_rfl) h with ⟨hcs, hx⟩ | ⟨a, len, cap, n', V, D, hcs, hl, hm, ⟨sp, hx⟩, hat⟩
  · injection hcs with hv
    subst hv
    exact ⟨none, 0, [], rfl, fun i h => absurd h (by simp), by simp, by simp [brings]⟩
  · injection hcs with hv
    subst hv
    have each : ∀ i, i < len → ∃ q : POp, V i 0 = .int .i64 q.kind ∧ V i 1 = .int .i64 q.which ∧ V i 2 = .int .i64 q.tw ∧ inI q.kind ∧ inI q.which ∧ inI q.tw ∧ ∃ A' c, V i 3 = .slice A' q.b.length c ∧ q.b.length ≤ c ∧ Rd W A' (q.b.map bv) ∧ q.b.length ≤ Rows.uptoBulk (D i 3) := by
      intro i hi
      obtain ⟨_, p0, h0⟩ := hat i (by omega) 0 _ rfl
      obtain ⟨_, p1, h1⟩ := hat i (by omega) 1 _ rfl
      obtain ⟨_, p2, h2⟩ := hat i (by omega) 2 _ rfl
      obtain ⟨_, p3, h3⟩ := hat i (by omega) 3 _ rfl
      obtain ⟨z0, hz0, _, w0⟩ := DataW.trod_int Tryd.underlying3 h0
      obtain ⟨z1, hz1, _, w1⟩ := DataW.trod_int Tryd.underlying3 h1
      obtain ⟨z2, hz2, _, w2⟩ := DataW.trod_int Tryd.underlying3 h2
      injection hz0 with hz0
      injection hz1 with hz1
      injection hz2 with hz2
      obtain ⟨a', l', c', hs⟩ := Go.Joins.slice_form Tryd.underlying29 h3
      injection hs with hs
      rw [hs] at h3
      obtain ⟨xs, rfl, hc, hr, he⟩ := opened_bytes (trod_one h3)
      exact ⟨⟨z0, z1, z2, xs⟩, hz0, hz1, hz2, int64_of w0, int64_of w1, int64_of w2, a', c', hs, hc, hr, bulk_short he⟩
    have inh : Inhabited POp := ⟨⟨0, 0, 0, []⟩⟩
    obtain ⟨q, hq⟩ := Go.Deep.choose_lt each
    have hb : Rows.uptoBulkAll ((List.range len).map fun i => DataW.agg ((List.range 4).map (D i))) ≤ Rows.uptoBulk y.1 := by
      rw [show y.1 = .slice ((List.range len).map fun i => .agg ((List.range 4).map (D i))) sp from hx]
      simp only [Rows.uptoBulk]
      omega
    refine ⟨some a, cap, (List.range len).map q, by simp, fun i hi => ?_, ?_, ?_⟩
    · have hi : i < len := by simpa using hi
      obtain ⟨g0, _⟩ := hat 0 (by omega) 0 _ rfl
      have hadd := fun k => addr_plain (show W.cell? a = _ by simpa [Addr.add] using g0) k
      obtain ⟨c0, _⟩ := hat i (by omega) 0 _ rfl
      obtain ⟨c1, _⟩ := hat i (by omega) 1 _ rfl
      obtain ⟨c2, _⟩ := hat i (by omega) 2 _ rfl
      obtain ⟨c3, _⟩ := hat i (by omega) 3 _ rfl
      have ha := spot_none (show W.cell? a = _ by simpa [Addr.add] using g0)
      rw [hadd] at c0 c1 c2 c3
      obtain ⟨q0, q1, q2, i0, i1, i2, A', c', q3, hc', hr, hbk⟩ := hq i hi
      rw [q0] at c0
      rw [q1] at c1
      rw [q2] at c2
      rw [q3] at c3
      simp only [List.getElem_map, List.getElem_range]
      refine ⟨a.block, a.off, A', c', by rw [← ha], ?_, ?_, ?_, ?_, i0, i1, i2, hc', hr, World.block_lt_of_cell? W _ (show W.cell? a = _ by simpa [Addr.add] using g0), fun hne k hk => hr.lt (by simpa using List.length_pos_iff.2 hne) k hk⟩
      · exact c0
      · rw [← c1]; congr 1
      · rw [← c2]; congr 1
      · rw [← c3]; congr 1
    · have := bulk_length ((List.range len).map fun i => DataW.agg ((List.range 4).map (D i)))
      simp at this ⊢
      omega
    · unfold brings
      rw [List.take_length]
      refine Nat.le_trans (bulk_sum (fun x : POp => x.b.length) _ ((List.range len).map fun i => DataW.agg ((List.range 4).map (D i))) (by simp) fun i hi hi' => ?_) hb
      have hi : i < len := by simpa using hi
      obtain ⟨_, _, _, _, _, _, A', c', _, _, _, hbk⟩ := hq i hi
      simp only [List.getElem_map, List.getElem_range]
      exact Nat.le_trans hbk (bulk_agg (List.mem_map.2 ⟨3, by simp, rfl⟩))
end Go.Proofs.YtkhakddecmgejaaDoor
