/-
  Three pairs, and a script of steps.
-/
import Derived.Test.YtkhakddecmgejaaDoorPair
namespace Go.Proofs.YtkhakddecmgejaaDoor
open Go.RowKit
set_option linter.unusedVariables false
set_option linter.unusedSimpArgs false

def upd {α : Type} (f : Nat → α) (j : Nat) (x : α) : Nat → α := fun i => if i = j then x else f i
theorem upd_same {α : Type} (f : Nat → α) (j : Nat) (x : α) : upd f j x j = x := if_pos rfl
theorem upd_ne {α : Type} (f : Nat → α) {i j : Nat} (x : α) (h : i ≠ j) : upd f j x i = f i := if_neg h
/-- k pairs in an array of three; each has taken n bytes at most -/
structure Trio (w : World) (base a : Nat) (ps : Nat → Nat) (hs : Nat → Option Nat) (vs : Nat → Value) (ms : Nat → List UInt8) (n k : Nat) : Prop where
  arr : Blk w a 46 (arr 3 fun i => if i < k then .pointer (some ⟨ps i, 0, none⟩) else .pointer none)
  each : ∀ i, i < k → IsP w base (ps i) (hs i) (vs i) (ms i)
  neP : ∀ i j, i < k → j < k → ps i = ps j → i = j
  neH : ∀ i j b, i < k → j < k → hs i = some b → hs j = some b → i = j
  le : ∀ i, i < k → (ms i).length ≤ n
  ge : base ≤ a
section
variable {S : Nat → Prop} {w w1 w' : World} {base a n n' k k' j r p' : Nat} {ps : Nat → Nat} {hs : Nat → Option Nat} {vs : Nat → Value} {ms : Nat → List UInt8} {h' : Option Nat} {v' : Value} {m' : List UInt8}
theorem Trio.frm' (h : Trio w base a ps hs vs ms n k) (hf : Frm noB w w') : Trio w' base a ps hs vs ms n k :=
  ⟨h.arr.frm' hf, fun i hi => (h.each i hi).frm' hf, h.neP, h.neH, h.le, h.ge⟩
theorem IsP.neA {cs : Array Value} {p : Nat} {v : Value} {m : List UInt8} {hh : Option Nat} (hP : IsP w base p hh v m) (ha : Blk w a 46 cs) : ¬ isPH p hh a := fun hk => by
  rcases hk with hk | hk
  · subst hk
    exact hP.blk.ne_ ha (by decide) rfl
  · obtain ⟨cs', h1⟩ := (hP.hash a hk).1.blk_
    exact h1.ne_ ha (by decide) rfl
theorem Trio.at_ (h : Trio w base a ps hs vs ms n 3) (hr : r < 3) : w.cell? ⟨a, r, none⟩ = some (.pointer (some ⟨ps r, 0, none⟩)) := by
  rw [h.arr.at_ hr, if_pos hr]
/-- a pair has made a step -/
theorem Trio.step (h : Trio w base a ps hs vs ms n 3) (hr : r < 3) (hP : IsP w' base (ps r) h' v' m') (hm : m'.length ≤ n') (hn : n ≤ n') (hb : ∀ b, h' = some b → hs r = some b ∨ w.heap.size ≤ b) (hf : Frm (isPH (ps r) (hs r)) w w') :
    Trio w' base a ps (upd hs r h') (upd vs r v') (upd ms r m') n' 3 := by
  have hR := h.each r hr
  refine ⟨h.arr.frm hf (hR.neA h.arr), fun i hi => ?_, h.neP, fun i j b hi hj e1 e2 => ?_, fun i hi => ?_, h.ge⟩
  · by_cases e : i = r
    · subst e; simp only [upd_same]; exact hP
    · simp only [upd_ne _ _ e]
      have hI := h.each i hi
      refine hI.frm hf (fun hk => ?_) (fun b hb hk => ?_) fun q hq hk => ?_
      · rcases hk with hk | hk
        · exact e (h.neP i r hi hr hk)
        · obtain ⟨cs', h1⟩ := (hR.hash _ hk).1.blk_
          exact h1.ne_ hI.blk (by decide) rfl
      · rcases hk with hk | hk
        · subst hk
          obtain ⟨cs', h1⟩ := (hI.hash _ hb).1.blk_
          exact h1.ne_ hR.blk (by decide) rfl
        · exact e (h.neH i r b hi hr hb hk)
      · rcases hk with hk | hk
        · subst hk
          exact hR.blk.own_ne hI.all (by decide) hq
        · obtain ⟨cs', h1⟩ := (hR.hash _ hk).1.blk_
          exact h1.own_ne hI.all (by decide) hq
  · have old : ∀ i b, i < 3 → i ≠ r → hs i = some b → h' = some b → False := fun i b hi hne e1 e2 => by
      rcases hb b e2 with h1 | h1
      · exact hne (h.neH i r b hi hr e1 h1)
      · have := ((h.each i hi).hash b e1).1.lt; omega
    by_cases ei : i = r
    · by_cases ej : j = r
      · omega
      · subst ei
        rw [upd_same] at e1
        rw [upd_ne _ _ ej] at e2
        exact (old j b hj ej e2 e1).elim
    · by_cases ej : j = r
      · subst ej
        rw [upd_same] at e2
        rw [upd_ne _ _ ei] at e1
        exact (old i b hi ei e1 e2).elim
      · rw [upd_ne _ _ ei] at e1
        rw [upd_ne _ _ ej] at e2
        exact h.neH i j b hi hj e1 e2
  · by_cases e : i = r
    · subst e; rw [upd_same]; exact hm
    · rw [upd_ne _ _ e]; have := h.le i hi; omega
/-- a new pair is laid into a place -/
theorem Trio.put (h : Trio w base a ps hs vs ms n k) (hk' : ∀ i, i < k' ↔ (i < k ∨ i = j)) (hf : Frm noB w w1) (hP : IsP w1 base p' h' v' m') (hp : w.heap.size ≤ p') (hh : ∀ b, h' = some b → w.heap.size ≤ b) (hm : m'.length ≤ n) :
    Trio (w1.setCell ⟨a, j, none⟩ (.pointer (some ⟨p', 0, none⟩))) base a (upd ps j p') (upd hs j h') (upd vs j v') (upd ms j m') n k' := by
  have h1 := h.frm' hf
  have hs1 : Frm (fun q => q = a) w1 (w1.setCell ⟨a, j, none⟩ (.pointer (some ⟨p', 0, none⟩))) := Frm.setCell (S := fun q => q = a) (Frm.refl _ _) (.inl rfl) _
  have keep : ∀ {p : Nat} {v : Value} {m : List UInt8} {hh : Option Nat}, IsP w1 base p hh v m → IsP (w1.setCell ⟨a, j, none⟩ (.pointer (some ⟨p', 0, none⟩))) base p hh v m := fun hI =>
    hI.frm hs1 (fun e => hI.neA h1.arr (.inl (Eq.symm e))) (fun b hb e => hI.neA h1.arr (.inr (by rw [hb]; exact congrArg some e))) fun q hq e => by subst e; exact h1.arr.own_ne hI.all (by decide) hq
  have in_ : ∀ i, i < k' → i ≠ j → i < k := fun i hi hne => by rcases (hk' i).1 hi with h | h; exact h; exact absurd h hne
  refine ⟨?_, fun i hi => ?_, fun i q hi hq e => ?_, fun i q b hi hq e1 e2 => ?_, fun i hi => ?_, h.ge⟩
  · refine (h1.arr.put j _).same fun i hi => ?_
    by_cases e : i = j
    · subst e; rw [if_pos rfl, if_pos ((hk' i).2 (.inr rfl)), upd_same]
    · rw [if_neg e, upd_ne _ _ e]
      by_cases e2 : i < k
      · rw [if_pos e2, if_pos ((hk' i).2 (.inl e2))]
      · rw [if_neg e2, if_neg fun h => e2 (in_ i h e)]
  · by_cases e : i = j
    · subst e; simp only [upd_same]; exact keep hP
    · simp only [upd_ne _ _ e]; exact keep (h1.each i (in_ i hi e))
  · by_cases ei : i = j
    · by_cases eq : q = j
      · omega
      · subst ei
        rw [upd_same, upd_ne _ _ eq] at e
        have := (h.each q (in_ q hq eq)).lt; omega
    · by_cases eq : q = j
      · subst eq
        rw [upd_same, upd_ne _ _ ei] at e
        have := (h.each i (in_ i hi ei)).lt; omega
      · rw [upd_ne _ _ ei, upd_ne _ _ eq] at e
        exact h.neP i q (in_ i hi ei) (in_ q hq eq) e
  · by_cases ei : i = j
    · by_cases eq : q = j
      · omega
      · subst ei
        rw [upd_same] at e1
        rw [upd_ne _ _ eq] at e2
        have := ((h.each q (in_ q hq eq)).hash b e2).1.lt; have := hh b e1; omega
    · by_cases eq : q = j
      · subst eq
        rw [upd_same] at e2
        rw [upd_ne _ _ ei] at e1
        have := ((h.each i (in_ i hi ei)).hash b e1).1.lt; have := hh b e2; omega
      · rw [upd_ne _ _ ei] at e1
        rw [upd_ne _ _ eq] at e2
        exact h.neH i q b (in_ i hi ei) (in_ q hq eq) e1 e2
  · by_cases e : i = j
    · subst e; rw [upd_same]; exact hm
    · rw [upd_ne _ _ e]; exact h.le i (in_ i hi e)
theorem Trio.mono (h : Trio w base a ps hs vs ms n k) (hn : n ≤ n') : Trio w base a ps hs vs ms n' k := ⟨h.arr, h.each, h.neP, h.neH, fun i hi => Nat.le_trans (h.le i hi) hn, h.ge⟩
end

/-- a step of a script -/
structure POp where
  kind : Int
  which : Int
  tw : Int
  b : List UInt8
def inI (n : Int) : Prop := -9223372036854775808 ≤ n ∧ n ≤ 9223372036854775807
/-- a list of steps reads so; N: of each block of it -/
def RdOps (w : World) (A : Option Addr) (l : List POp) (N : Nat → Prop) : Prop :=
  ∀ i (h : i < l.length), ∃ b off A' c, A = some ⟨b, off, none⟩ ∧ w.cell? ⟨b, off + i * 4, none⟩ = some (.int .i64 l[i].kind) ∧ w.cell? ⟨b, off + i * 4 + 1, none⟩ = some (.int .i64 l[i].which) ∧ w.cell? ⟨b, off + i * 4 + 2, none⟩ = some (.int .i64 l[i].tw) ∧ w.cell? ⟨b, off + i * 4 + 3, none⟩ = some (.slice A' l[i].b.length c) ∧
    inI l[i].kind ∧ inI l[i].which ∧ inI l[i].tw ∧ l[i].b.length ≤ c ∧ Rd w A' (l[i].b.map bv) ∧ N b ∧ (l[i].b ≠ [] → ∀ k, aB A' k → N k)
theorem RdOps.frm {w w' : World} {A : Option Addr} {l : List POp} {N S : Nat → Prop} (h : RdOps w A l N) (hf : Frm S w w') (hS : ∀ k, N k → ¬ S k) : RdOps w' A l N := by
  intro i hi
  obtain ⟨b, off, A', c, e, h0, h1, h2, h3, b0, b1, b2, hc, hr, hb, hn⟩ := h i hi
  exact ⟨b, off, A', c, e, hf.cell_some h0 (hS _ hb), hf.cell_some h1 (hS _ hb), hf.cell_some h2 (hS _ hb), hf.cell_some h3 (hS _ hb), b0, b1, b2, hc, hr.frmN hf fun hne k hk => hS k (hn (by intro e; apply hne; rw [e]; rfl) k hk), hb, hn⟩
theorem RdOps.frm' {w w' : World} {A : Option Addr} {l : List POp} {N : Nat → Prop} (h : RdOps w A l N) (hf : Frm noB w w') : RdOps w' A l N := h.frm hf fun _ _ h => h
/-- how many bytes the first k steps bring -/
def brings (l : List POp) (k : Nat) : Nat := ((l.take k).map fun x => x.b.length).sum
theorem brings_succ (l : List POp) {k : Nat} (h : k < l.length) : brings l (k + 1) = brings l k + l[k].b.length := by
  unfold brings
  rw [List.take_succ_eq_append_getElem h, List.map_append, List.sum_append]
  simp
theorem brings_le (l : List POp) (k : Nat) : brings l k ≤ brings l l.length := by
  unfold brings
  rw [List.take_length]
  conv => rhs; rw [← List.take_append_drop k l, List.map_append, List.sum_append]
  omega
end Go.Proofs.YtkhakddecmgejaaDoor
