/-
  A slice of structs of one-cell fields, opened.
-/
import Derived.Test.YtjnoddbhfcpniaaBulk
import Derived.Deep.Slices
import Derived.Deep.Fields
import Derived.Lib.SmallJoins
namespace Go.Proofs.Ytjnoddbhfcpniaa
open Go.ChangeShapes Go.WideShapes Go.ChangeAt Go.RowKit
set_option linter.unusedVariables false
set_option linter.unusedSimpArgs false

theorem open_structs {H : Type} {enc : TypeId × Value → H} {P : Program} {w : World} {base : Nat} {held : Bool} {t e : TypeId} {fs : Array Field} {fuel : Nat} {cs : List Value} {x : DataW H × List MemPlace}
    (ht : P.underlying t = some (.slice e)) (he : P.underlying e = some (.struct fs)) (ce : P.cellsOf e = fs.size) (hone : Go.Deep.oneCellFields P fs = true)
    (h : DataW.trod enc P w base (fun _ => true) held fuel t cs = some x) :
    (cs = [.slice none 0 0] ∧ x.1 = .nil) ∨
    ∃ (a : Addr) (len cap n : Nat) (V : Nat → Nat → Value) (D : Nat → Nat → DataW H), cs = [.slice (some a) len cap] ∧ len ≤ cap ∧ cap ≤ maxLen ∧
      (∃ sp, x.1 = .slice ((List.range len).map fun i => .agg ((List.range fs.size).map (D i))) sp) ∧
      ∀ i, i < cap → ∀ (j : Nat) (f : Field), fs[j]? = some f → w.cell? (a.add (i * fs.size + j)) = some (V i j) ∧ ∃ p, DataW.trod enc P w base (fun _ => true) held n f.type [V i j] = some (D i j, p) := by
  rcases Go.Deep.open_slice ht h with ⟨h0, h1⟩ | ⟨a, len, cap, m, n, D, Pl, rfl, hb, hl, hm, hmm, rfl, hx⟩
  · exact .inl ⟨h0, by rw [h1]⟩
  right
  simp only [if_true] at hmm
  subst hmm
  have each : ∀ i, i < m → ∃ q : List Value × List (DataW H × List MemPlace), q.1.length = fs.size ∧ q.2.length = fs.size ∧ D i = .agg (q.2.map (·.1)) ∧
      ∀ (j : Nat) (f : Field), fs[j]? = some f → w.cell? (a.add (i * fs.size + j)) = q.1[j]? ∧ DataW.trod enc P w base (fun _ => true) held (n - 1) f.type ((q.1.drop f.offset).take (P.cellsOf f.type)) = q.2[j]? := by
    intro i hi
    obtain ⟨cs', h1, h2⟩ := hx i hi
    rw [ce] at h1
    obtain ⟨_, hlen, hcell⟩ := World.cells?_some h1
    obtain ⟨xs, k, hk, hxy, _, hxl, hf⟩ := DataW.trod_struct he h2
    have hk' : k = n - 1 := by omega
    subst hk'
    simp only [Prod.mk.injEq] at hxy
    refine ⟨(cs', xs), hlen, hxl, hxy.1, fun j f hj => ⟨?_, hf j f hj⟩⟩
    have hjl : j < fs.size := (Array.getElem?_eq_some_iff.1 hj).1
    rw [← hcell j hjl, Go.Deep.add_add]
  obtain ⟨q, hq⟩ := Go.Deep.choose_lt each
  refine ⟨a, len, m, n - 1, fun i j => (q i).1.getD j undef, fun i j => ((q i).2.getD j (.nil, [])).1, rfl, hl, hm, ⟨_, congrArg (DataW.slice · _) (List.map_congr_left fun i hi => ?_)⟩, fun i hi j f hj => ?_⟩
  · have hi : i < m := by have := List.mem_range.1 hi; omega
    obtain ⟨h1, h2, h3, _⟩ := hq i hi
    rw [h3]
    congr 1
    apply List.ext_getElem?
    intro j
    by_cases hj : j < fs.size
    · simp [List.getD, hj, h2]
    · simp [hj, h2]
  · obtain ⟨h1, h2, h3, h4⟩ := hq i hi
    obtain ⟨g1, g2⟩ := h4 j f hj
    have hjl : j < fs.size := (Array.getElem?_eq_some_iff.1 hj).1
    obtain ⟨o1, o2⟩ := Go.Deep.hone_of hone j f hj
    have e1 : (q i).1[j]? = some ((q i).1.getD j undef) := by simp [List.getD, h1, hjl]
    have e2 : (q i).2[j]? = some ((q i).2.getD j (.nil, [])) := by simp [List.getD, h2, hjl]
    refine ⟨by rw [g1, e1], ((q i).2.getD j (.nil, [])).2, ?_⟩
    rw [o1, o2] at g2
    have e3 : ((q i).1.drop j).take 1 = [(q i).1.getD j undef] := by
      have hj1 : j < (q i).1.length := by omega
      have eg : (q i).1.getD j undef = (q i).1[j] := by simp [List.getD, hj1]
      rw [eg, List.drop_eq_getElem_cons hj1]
      rfl
    rw [e3, e2] at g2
    rw [g2]
end Go.Proofs.Ytjnoddbhfcpniaa
