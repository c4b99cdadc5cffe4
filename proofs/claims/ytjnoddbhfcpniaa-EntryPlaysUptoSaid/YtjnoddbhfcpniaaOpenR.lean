/-
  An argument of type [][]byte, opened.
-/
import Derived.Test.YtjnoddbhfcpniaaBulk
import Derived.Test.YtjnoddbhfcpniaaOwn
import Derived.Deep.Slices
import Derived.Lib.SmallJoins
namespace Go.Proofs.Ytjnoddbhfcpniaa
open Go.ChangeShapes Go.WideShapes Go.ChangeAt Go.RowKit
set_option linter.unusedVariables false
set_option linter.unusedSimpArgs false

theorem cells_row : Try.prog.cellsOf 35 = 1 := by kernel_rfl
theorem bulk_flat {H : Type} : ∀ (xss : List (List UInt8)) (ds : List (DataW H)), xss.length = ds.length → (∀ i (h : i < xss.length) (h' : i < ds.length), xss[i].length ≤ Rows.uptoBulk ds[i]) → xss.flatten.length ≤ Rows.uptoBulkAll ds
  | [], _, _, _ => by simp
  | x :: xs, [], h, _ => by simp at h
  | x :: xs, d :: ds, h, h' => by
    have h0 := h' 0 (by simp) (by simp)
    have ih := bulk_flat xs ds (by simpa using h) fun i hi hi' => by
      have := h' (i + 1) (by simpa using hi) (by simpa using hi')
      simpa using this
    simp only [List.flatten_cons, List.length_append, Rows.uptoBulkAll]
    simp at h0
    omega
theorem opened_rows {H : Type} {enc : TypeId × Value → H} {W : World} {n : Nat} {v : Value} {y : DataW H × List MemPlace}
    (h : DataW.trod enc Try.prog W 0 (fun _ => true) true n 37 [v] = some y) :
    ∃ A cap, ∃ xss : List (List UInt8), v = .slice A xss.length cap ∧ xss.length ≤ cap ∧ RdRows W A xss (fun k => k < W.heap.size) ∧ xss.length ≤ Rows.uptoBulk y.1 ∧ xss.flatten.length ≤ Rows.uptoBulk y.1 := by
  rcases Go.Deep.open_slice1 Try.underlying37 cells_row h with ⟨hcs, hx⟩ | ⟨a, len, cap, m, n', V, D, Pl, hcs, _, hl, hm, hmm, hx, hat⟩
  · injection hcs with hv
    subst hv
    exact ⟨none, 0, [], rfl, by simp, ⟨[], Rd.nil _ _, rfl, fun i h => absurd h (by simp), fun h => absurd rfl h⟩, by simp, by simp⟩
  · injection hcs with hv
    subst hv
    subst hx
    simp only [if_true] at hmm
    have each : ∀ i, i < len → ∃ q : List UInt8, ∃ A' c, V i = .slice A' q.length c ∧ q.length ≤ c ∧ Rd W A' (q.map bv) ∧ q.length ≤ Rows.uptoBulk (D i) := by
      intro i hi
      obtain ⟨_, h1⟩ := hat i (by omega)
      obtain ⟨a', l', c', hs⟩ := Go.Joins.slice_form Try.underlying35 h1
      injection hs with hs
      rw [hs] at h1
      obtain ⟨xs, rfl, hc, hr, he⟩ := opened_bytes (trod_one h1)
      exact ⟨xs, a', c', hs, hc, hr, bulk_short he⟩
    obtain ⟨q, hq⟩ := Go.Deep.choose_lt each
    have hb : Rows.uptoBulkAll ((List.range len).map D) ≤ Rows.uptoBulk (DataW.slice ((List.range len).map D) ((List.range (m - len)).map fun j => D (len + j))) := by
      simp only [Rows.uptoBulk]; omega
    refine ⟨some a, cap, (List.range len).map q, by simp, by simpa using hl, ⟨(List.range len).map V, fun i hi => ?_, by simp, fun i hi hi' => ?_, fun _ k hk => ?_⟩, ?_, ?_⟩
    · have hi : i < len := by simpa using hi
      obtain ⟨g0, _⟩ := hat 0 (by omega)
      have ha := spot_none (show W.cell? a = _ by simpa [Addr.add] using g0)
      obtain ⟨c0, _⟩ := hat i (by omega)
      clear hat g0
      obtain ⟨ab, ao, rfl⟩ : ∃ ab ao, a = ⟨ab, ao, none⟩ := ⟨_, _, ha⟩
      clear ha
      have add : ∀ k, (⟨ab, ao, none⟩ : Addr).add k = ⟨ab, ao + k, none⟩ := fun k => by
        unfold Addr.add; split <;> simp_all
      rw [add] at c0
      exact ⟨ab, ao, rfl, by rw [c0]; simp⟩
    · have hi : i < len := by simpa using hi
      obtain ⟨A', c, e, hc, hr, _⟩ := hq i hi
      refine ⟨A', c, by simpa using e, by simpa using hc, by simpa using hr, fun hne k hk => hr.lt (by simp at hne ⊢; exact List.length_pos_iff.2 hne) k hk⟩
    · obtain ⟨a', e, rfl⟩ := hk
      injection e with e
      subst e
      rename_i hne
      have h0 : 0 < len := by rcases Nat.eq_zero_or_pos len with e | e; (subst e; exact absurd rfl hne); exact e
      obtain ⟨g0, _⟩ := hat 0 (by omega)
      exact World.block_lt_of_cell? W _ (show W.cell? a = _ by simpa [Addr.add] using g0)
    · refine Nat.le_trans ?_ hb
      have := bulk_length ((List.range len).map D)
      simpa using this
    · refine Nat.le_trans (bulk_flat _ _ (by simp) fun i hi hi' => ?_) hb
      have hi : i < len := by simpa using hi
      obtain ⟨A', c, _, _, _, hb⟩ := hq i hi
      simpa using hb
end Go.Proofs.Ytjnoddbhfcpniaa
