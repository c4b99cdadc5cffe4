/-
  EntryPlays: a script of steps, opened.
-/
import Derived.Test.YtjnoddbhfcpniaaOpenS
import Derived.Test.YtjnoddbhfcpniaaOpenR
namespace Go.Proofs.Ytjnoddbhfcpniaa
open Go.ChangeShapes Go.WideShapes Go.ChangeAt Go.RowKit
set_option linter.unusedVariables false
set_option linter.unusedSimpArgs false

/-- a step, as plain data -/
structure PStep where
  dv : Int
  kind : Int
  round : Int
  at_ : Int
  client : Int
  data : List UInt8
  rows : List (List UInt8)
/-- the slice at A holds those steps; what they hold has at most n bytes -/
def RdSt (w : World) (A : Option Addr) (l : List PStep) (n : Nat) : Prop :=
  ∀ i (h : i < l.length), ∃ b off A' c Ar cr, A = some ⟨b, off, none⟩ ∧ w.cell? ⟨b, off + i * 7, none⟩ = some (.int .i64 l[i].dv) ∧ w.cell? ⟨b, off + i * 7 + 1, none⟩ = some (.int .i64 l[i].kind) ∧ w.cell? ⟨b, off + i * 7 + 2, none⟩ = some (.int .u64 l[i].round) ∧
    w.cell? ⟨b, off + i * 7 + 3, none⟩ = some (.int .i64 l[i].at_) ∧ w.cell? ⟨b, off + i * 7 + 4, none⟩ = some (.int .i64 l[i].client) ∧ w.cell? ⟨b, off + i * 7 + 5, none⟩ = some (.slice A' l[i].data.length c) ∧ w.cell? ⟨b, off + i * 7 + 6, none⟩ = some (.slice Ar l[i].rows.length cr) ∧
    Rd w A' (l[i].data.map bv) ∧ RdRows w Ar l[i].rows (fun k => k < w.heap.size) ∧ l[i].data.length ≤ n ∧ l[i].rows.length ≤ n ∧ ∀ x ∈ l[i].rows, x.length ≤ n
theorem addr_plain' {w : World} {a : Addr} {v : Value} (h : w.cell? a = some v) (k : Nat) : a.add k = ⟨a.block, a.off + k, none⟩ := by
  have ha := spot_none h
  obtain ⟨b, o, s⟩ := a
  simp only [Addr.mk.injEq, true_and] at ha
  subst ha
  unfold Addr.add
  split
  · rename_i h0; subst h0; rfl
  · rfl
theorem flat_le {xss : List (List UInt8)} {n : Nat} (h : xss.flatten.length ≤ n) : ∀ x ∈ xss, x.length ≤ n := by
  induction xss with
  | nil => simp
  | cons y r ih =>
    intro x hx
    simp only [List.flatten_cons, List.length_append] at h
    rcases List.mem_cons.1 hx with rfl | hx
    · omega
    · exact ih (by omega) x hx
theorem cells_step : Try.prog.cellsOf 68 = 7 := by kernel_rfl
set_option maxHeartbeats 400000 in
theorem opened_steps {H : Type} {enc : TypeId × Value → H} {W : World} {n : Nat} {v : Value} {y : DataW H × List MemPlace}
    (h : DataW.trod enc Try.prog W 0 (fun _ => true) true n 56 [v] = some y) :
    ∃ A cap, ∃ l : List PStep, v = .slice A l.length cap ∧ RdSt W A l (Rows.uptoBulk y.1) ∧ l.length ≤ Rows.uptoBulk y.1 := by
  rcases open_structs Try.underlying56 Try.underlying68 cells_step (by kernel_rfl) h with ⟨hcs, hx⟩ | ⟨a, len, cap, n', V, D, hcs, hl, hm, ⟨sp, hx⟩, hat⟩
  · injection hcs with hv
    subst hv
    exact ⟨none, 0, [], rfl, fun i h => absurd h (by simp), by simp⟩
  · injection hcs with hv
    subst hv
    have each : ∀ i, i < len → ∃ q : PStep, V i 0 = .int .i64 q.dv ∧ V i 1 = .int .i64 q.kind ∧ V i 2 = .int .u64 q.round ∧ V i 3 = .int .i64 q.at_ ∧ V i 4 = .int .i64 q.client ∧ ∃ A' c Ar cr, V i 5 = .slice A' q.data.length c ∧ V i 6 = .slice Ar q.rows.length cr ∧ Rd W A' (q.data.map bv) ∧ RdRows W Ar q.rows (fun k => k < W.heap.size) ∧
        q.data.length ≤ Rows.uptoBulk (D i 5) ∧ q.rows.length ≤ Rows.uptoBulk (D i 6) ∧ q.rows.flatten.length ≤ Rows.uptoBulk (D i 6) := by
      intro i hi
      obtain ⟨_, p0, h0⟩ := hat i (by omega) 0 _ rfl
      obtain ⟨_, p1, h1⟩ := hat i (by omega) 1 _ rfl
      obtain ⟨_, p2, h2⟩ := hat i (by omega) 2 _ rfl
      obtain ⟨_, p3, h3⟩ := hat i (by omega) 3 _ rfl
      obtain ⟨_, p4, h4⟩ := hat i (by omega) 4 _ rfl
      obtain ⟨_, p5, h5⟩ := hat i (by omega) 5 _ rfl
      obtain ⟨_, p6, h6⟩ := hat i (by omega) 6 _ rfl
      obtain ⟨z0, hz0, _, _⟩ := DataW.trod_int Try.underlying3 h0
      obtain ⟨z1, hz1, _, _⟩ := DataW.trod_int Try.underlying3 h1
      obtain ⟨z2, hz2, _, _⟩ := DataW.trod_int Try.underlying23 h2
      obtain ⟨z3, hz3, _, _⟩ := DataW.trod_int Try.underlying2 h3
      obtain ⟨z4, hz4, _, _⟩ := DataW.trod_int Try.underlying3 h4
      injection hz0 with hz0
      injection hz1 with hz1
      injection hz2 with hz2
      injection hz3 with hz3
      injection hz4 with hz4
      obtain ⟨a', l', c', hs⟩ := Go.Joins.slice_form Try.underlying35 h5
      injection hs with hs
      rw [hs] at h5
      obtain ⟨xs, rfl, hc, hr, he⟩ := opened_bytes (trod_one h5)
      obtain ⟨Ar, cr, rows, hs6, _, hrr, hb1, hb2⟩ := opened_rows h6
      exact ⟨⟨z0, z1, z2, z3, z4, xs, rows⟩, hz0, hz1, hz2, hz3, hz4, a', c', Ar, cr, hs, hs6, hr, hrr, bulk_short he, hb1, hb2⟩
    have inh : Inhabited PStep := ⟨⟨0, 0, 0, 0, 0, [], []⟩⟩
    obtain ⟨q, hq⟩ := Go.Deep.choose_lt each
    have hb : Rows.uptoBulkAll ((List.range len).map fun i => DataW.agg ((List.range 7).map (D i))) ≤ Rows.uptoBulk y.1 := by
      rw [show y.1 = .slice ((List.range len).map fun i => .agg ((List.range 7).map (D i))) sp from hx]
      simp only [Rows.uptoBulk]
      omega
    have hD : ∀ i, i < len → ∀ j, j < 7 → Rows.uptoBulk (D i j) ≤ Rows.uptoBulk y.1 := fun i hi j hj => by
      have m1 := bulk_mem (l := (List.range 7).map (D i)) (d := D i j) (List.mem_map.2 ⟨j, by simpa using hj, rfl⟩)
      have m2 := bulk_mem (l := (List.range len).map fun i => DataW.agg ((List.range 7).map (D i))) (d := .agg ((List.range 7).map (D i))) (List.mem_map.2 ⟨i, by simpa using hi, rfl⟩)
      simp only [Rows.uptoBulk] at m2
      omega
    refine ⟨some a, cap, (List.range len).map q, by simp, fun i hi => ?_, ?_⟩
    · have hi : i < len := by simpa using hi
      obtain ⟨g0, _⟩ := hat 0 (by omega) 0 _ rfl
      have hadd := fun k => addr_plain' (show W.cell? a = _ by simpa [Addr.add] using g0) k
      have ha := spot_none (show W.cell? a = _ by simpa [Addr.add] using g0)
      obtain ⟨c0, _⟩ := hat i (by omega) 0 _ rfl
      obtain ⟨c1, _⟩ := hat i (by omega) 1 _ rfl
      obtain ⟨c2, _⟩ := hat i (by omega) 2 _ rfl
      obtain ⟨c3, _⟩ := hat i (by omega) 3 _ rfl
      obtain ⟨c4, _⟩ := hat i (by omega) 4 _ rfl
      obtain ⟨c5, _⟩ := hat i (by omega) 5 _ rfl
      obtain ⟨c6, _⟩ := hat i (by omega) 6 _ rfl
      rw [hadd] at c0 c1 c2 c3 c4 c5 c6
      obtain ⟨q0, q1, q2, q3, q4, A', c', Ar, cr, q5, q6, hr, hrr, b1, b2, b3⟩ := hq i hi
      rw [q0] at c0
      rw [q1] at c1
      rw [q2] at c2
      rw [q3] at c3
      rw [q4] at c4
      rw [q5] at c5
      rw [q6] at c6
      simp only [List.getElem_map, List.getElem_range]
      refine ⟨a.block, a.off, A', c', Ar, cr, by rw [← ha], c0, ?_, ?_, ?_, ?_, ?_, ?_, hr, hrr, Nat.le_trans b1 (hD i hi 5 (by omega)), Nat.le_trans b2 (hD i hi 6 (by omega)), flat_le (Nat.le_trans b3 (hD i hi 6 (by omega)))⟩
      · rw [← c1]; congr 1
      · rw [← c2]; congr 1
      · rw [← c3]; congr 1
      · rw [← c4]; congr 1
      · rw [← c5]; congr 1
      · rw [← c6]; congr 1
    · have := bulk_length ((List.range len).map fun i => DataW.agg ((List.range 7).map (D i)))
      simp at this ⊢
      omega
end Go.Proofs.Ytjnoddbhfcpniaa
