/-
  Maps keyed by int, in a block of their own, as lists of pairs: make, look up, store, delete, clear. No program in sight.
-/
import Derived.Test.YtjnoddbhfcpniaaMem
import Derived.Maps.OwnOps
namespace Go.Proofs.Ytjnoddbhfcpniaa
open Go.RowKit
set_option linter.unusedVariables false
set_option linter.unusedSimpArgs false

/-- the one block -/
def isB (r : Nat) : Nat → Prop := fun k => k = r
/-- the block r is a map whose entries are l -/
def IMap (w : World) (r : Nat) (l : List (Int × Value)) : Prop :=
  ∃ es clock, w.heap[r]? = some (.map es clock) ∧ es.toList.map (fun e => (e.key, e.val)) = l.map fun p => (Value.int .i64 p.1, p.2)

def mfind (x : Int) : List (Int × Value) → Nat → Option (Nat × Value)
  | [], _ => none
  | p :: l, i => if p.1 = x then some (i, p.2) else mfind x l (i + 1)
def mget (l : List (Int × Value)) (x : Int) : Option Value := (mfind x l 0).map (·.2)
def mput : List (Int × Value) → Int → Value → List (Int × Value)
  | [], x, v => [(x, v)]
  | p :: l, x, v => if p.1 = x then (x, v) :: l else p :: mput l x v
def mdel : List (Int × Value) → Int → List (Int × Value)
  | [], _ => []
  | p :: l, x => if p.1 = x then l else p :: mdel l x

theorem mfind_shift (x : Int) (l : List (Int × Value)) : ∀ i, (mfind x l i).map (·.2) = mget l x := by
  unfold mget
  induction l with
  | nil => intro i; rfl
  | cons p l ih =>
    intro i
    simp only [mfind]
    split
    · rfl
    · rw [ih (i + 1), ih (0 + 1)]
theorem mget_nil (x : Int) : mget [] x = none := rfl
theorem mget_cons (p : Int × Value) (l : List (Int × Value)) (x : Int) : mget (p :: l) x = if p.1 = x then some p.2 else mget l x := by
  conv => lhs; unfold mget; simp only [mfind]
  split
  · rfl
  · exact mfind_shift x l 1
theorem mget_mput (l : List (Int × Value)) (x y : Int) (v : Value) : mget (mput l x v) y = if x = y then some v else mget l y := by
  induction l with
  | nil => simp [mput, mget_cons, mget_nil]
  | cons p l ih =>
    simp only [mput]
    split
    · rename_i h
      subst h
      simp only [mget_cons]
      split <;> rfl
    · rename_i h
      simp only [mget_cons, ih]
      by_cases e : p.1 = y
      · rw [if_pos e, if_pos e]
        split
        · rename_i e'; exact absurd (e.trans e'.symm) h
        · rfl
      · rw [if_neg e, if_neg e]

section
variable {P : Program} {w : World} {r T K E : Nat} {l : List (Int × Value)}

theorem IMap.lt (h : IMap w r l) : r < w.heap.size := by
  obtain ⟨es, c, hb, _⟩ := h
  exact (Array.getElem?_eq_some_iff.1 hb).1
theorem IMap.frm {S : Nat → Prop} {w' : World} (h : IMap w r l) (hf : Frm S w w') (hS : ¬ S r) : IMap w' r l := by
  have hl := h.lt
  obtain ⟨es, c, hb, he⟩ := h
  exact ⟨es, c, (hf.block r hl hS).trans hb, he⟩
theorem IMap.new (w : World) : IMap (w.alloc (.map #[] 0)) w.heap.size [] := ⟨#[], 0, heap_alloc_new w _, rfl⟩

theorem checkKey_int (hk : P.underlying K = some (.int .i64)) (e : Bool) (n : Nat) (x : Int) : (Instr.checkKey e (n + 1) K (.int .i64 x)).run P w = .ok () w := by
  unfold Instr.checkKey
  simp [run_underlying hk]
theorem findNow_int (x : Int) : ∀ (es : List MapEntry) (l : List (Int × Value)) (i : Nat), es.map (fun e => (e.key, e.val)) = l.map (fun p => (Value.int .i64 p.1, p.2)) →
    Instr.findNow (.int .i64) (.int .i64 x) es i = some (mfind x l i)
  | [], [], i, _ => rfl
  | [], p :: l, i, h => by simp at h
  | e :: es, [], i, h => by simp at h
  | e :: es, p :: l, i, h => by
    simp only [List.map_cons, List.cons.injEq, Prod.mk.injEq] at h
    obtain ⟨⟨hk, hv⟩, ht⟩ := h
    unfold Instr.findNow
    rw [hk]
    simp only [Instr.sameNow, if_true]
    by_cases e' : p.1 = x
    · have : (x == p.1) = true := by simp [e']
      rw [this]
      simp only [mfind, if_pos e', hv]
    · have : (x == p.1) = false := by simp; exact fun h => e' h.symm
      rw [this]
      simp only [mfind, if_neg e']
      exact findNow_int x es l (i + 1) ht
theorem findKey_int (hk : P.underlying K = some (.int .i64)) {es : Array MapEntry} (he : es.toList.map (fun e => (e.key, e.val)) = l.map fun p => (Value.int .i64 p.1, p.2)) (x : Int) :
    (Instr.findKey K (.int .i64 x) es.toList).run P w = .ok (mfind x l 0) w := by
  unfold Instr.findKey
  simp [run_underlying hk, findNow_int x es.toList l 0 he]

/-- m[k], with 'ok' -/
theorem run_lookup_int (ht : P.underlying T = some (.map K E)) (hk : P.underlying K = some (.int .i64)) {z : Value} (hz : ∀ w, (zeroValue E).run P w = .ok z w) (h : IMap w r l) (x : Int) :
    (Instr.lookup T (.map (some r)) (.int .i64 x) true).run P w = .ok (.tuple #[(mget l x).getD z, .bool (mget l x).isSome]) w := by
  obtain ⟨es, c, hb, he⟩ := h
  have h1 : ∀ b, (Instr.checkKey b 10000 K (.int .i64 x)).run P w = .ok () w := fun b => checkKey_int (P := P) (w := w) hk b 9999 x
  have h2 := findKey_int (P := P) (w := w) hk he x
  unfold Instr.lookup
  simp only [go_sem, run_underlying ht, getObj, Sem.run_bind, Sem.run, hb, Result.andThen_ok, h1, h2]
  unfold mget
  rw [Sem.run_pure, Result.andThen_ok, h1, Result.andThen_ok, h2, Result.andThen_ok]
  cases mfind x l 0 with
  | none => simp [hz]
  | some q => simp

theorem mput_hit {x : Int} {v : Value} : ∀ {l : List (Int × Value)} {i j : Nat} {u : Value}, mfind x l i = some (j, u) → i ≤ j ∧ j - i < l.length ∧
    (l.map fun p => (Value.int .i64 p.1, p.2)).modify (j - i) (fun _ => (.int .i64 x, v)) = (mput l x v).map fun p => (Value.int .i64 p.1, p.2)
  | [], _, _, _, h => by simp [mfind] at h
  | p :: l, i, j, u, h => by
    simp only [mfind] at h
    split at h
    · rename_i e
      cases h
      simp [mput, e]
    · rename_i e
      obtain ⟨h1, h2, h3⟩ := mput_hit (v := v) h
      refine ⟨by omega, by simp; omega, ?_⟩
      have : j - i = (j - (i + 1)) + 1 := by omega
      rw [this]
      simp only [mput, if_neg e, List.map_cons, List.modify_succ_cons, h3]
theorem mput_miss {x : Int} {v : Value} : ∀ {l : List (Int × Value)} {i : Nat}, mfind x l i = none → mput l x v = l ++ [(x, v)]
  | [], _, _ => rfl
  | p :: l, i, h => by
    simp only [mfind] at h
    split at h
    · cases h
    · rename_i e; simp only [mput, if_neg e, List.cons_append, mput_miss h]
theorem mdel_hit {x : Int} : ∀ {l : List (Int × Value)} {i j : Nat} {u : Value}, mfind x l i = some (j, u) → i ≤ j ∧ j - i < l.length ∧ l.eraseIdx (j - i) = mdel l x
  | [], _, _, _, h => by simp [mfind] at h
  | p :: l, i, j, u, h => by
    simp only [mfind] at h
    split at h
    · rename_i e
      cases h
      simp [mdel, e]
    · rename_i e
      obtain ⟨h1, h2, h3⟩ := mdel_hit h
      refine ⟨by omega, by simp; omega, ?_⟩
      have : j - i = (j - (i + 1)) + 1 := by omega
      rw [this]
      simp only [mdel, if_neg e, List.eraseIdx_cons_succ, h3]
theorem map_eraseIdx {α β : Type} (f : α → β) : ∀ (l : List α) (i : Nat), (l.eraseIdx i).map f = (l.map f).eraseIdx i
  | [], _ => rfl
  | _ :: _, 0 => rfl
  | a :: l, i + 1 => by simp [map_eraseIdx f l i]
theorem mget_none {l : List (Int × Value)} {x : Int} (h : x ∉ l.map (·.1)) : mget l x = none := by
  induction l with
  | nil => rfl
  | cons p l ih =>
    simp only [List.map_cons, List.mem_cons, not_or] at h
    rw [mget_cons, if_neg (fun e => h.1 e.symm), ih h.2]
theorem mget_mdel {l : List (Int × Value)} (hn : (l.map (·.1)).Nodup) (x y : Int) : mget (mdel l x) y = if x = y then none else mget l y := by
  induction l with
  | nil => simp [mdel, mget_nil]
  | cons p l ih =>
    simp only [List.map_cons, List.nodup_cons] at hn
    simp only [mdel]
    by_cases e : p.1 = x
    · rw [if_pos e]
      by_cases e' : x = y
      · rw [if_pos e']; subst e'; exact mget_none (e ▸ hn.1)
      · rw [if_neg e', mget_cons, if_neg (fun h => e' (e.symm.trans h))]
    · rw [if_neg e, mget_cons, mget_cons, ih hn.2]
      by_cases e' : p.1 = y
      · rw [if_pos e', if_pos e', if_neg (fun h => e (e'.trans h.symm))]
      · rw [if_neg e', if_neg e']
theorem mdel_keys (l : List (Int × Value)) (x z : Int) (h : z ∈ (mdel l x).map (·.1)) : z ∈ l.map (·.1) := by
  induction l with
  | nil => simp [mdel] at h
  | cons p l ih =>
    simp only [mdel] at h
    split at h
    · exact List.mem_cons_of_mem _ h
    · simp only [List.map_cons, List.mem_cons] at h ⊢
      exact h.imp id ih
theorem mdel_nodup {l : List (Int × Value)} (hn : (l.map (·.1)).Nodup) (x : Int) : ((mdel l x).map (·.1)).Nodup := by
  induction l with
  | nil => simp [mdel]
  | cons p l ih =>
    simp only [List.map_cons, List.nodup_cons] at hn
    simp only [mdel]
    split
    · exact hn.2
    · simp only [List.map_cons, List.nodup_cons]
      exact ⟨fun h => hn.1 (mdel_keys l x _ h), ih hn.2⟩
theorem mput_keys (l : List (Int × Value)) (x z : Int) (v : Value) (h : z ∈ (mput l x v).map (·.1)) : z = x ∨ z ∈ l.map (·.1) := by
  induction l with
  | nil => simpa [mput] using h
  | cons p l ih =>
    simp only [mput] at h
    split at h
    · simp only [List.map_cons, List.mem_cons] at h ⊢
      exact h.imp id .inr
    · simp only [List.map_cons, List.mem_cons] at h ⊢
      rcases h with h | h
      · exact .inr (.inl h)
      · exact (ih h).imp id .inr
theorem mput_nodup {l : List (Int × Value)} (hn : (l.map (·.1)).Nodup) (x : Int) (v : Value) : ((mput l x v).map (·.1)).Nodup := by
  induction l with
  | nil => simp [mput]
  | cons p l ih =>
    simp only [List.map_cons, List.nodup_cons] at hn
    simp only [mput]
    split
    · rename_i e
      subst e
      simp only [List.map_cons, List.nodup_cons]
      exact hn
    · rename_i e
      simp only [List.map_cons, List.nodup_cons]
      refine ⟨fun h => ?_, ih hn.2⟩
      rcases mput_keys l x _ v h with h | h
      · exact e h
      · exact hn.1 h
theorem mdel_miss {x : Int} : ∀ {l : List (Int × Value)} {i : Nat}, mfind x l i = none → mdel l x = l
  | [], _, _ => rfl
  | p :: l, i, h => by
    simp only [mfind] at h
    split at h
    · cases h
    · rename_i e; simp only [mdel, if_neg e, mdel_miss h]

/-- block r is another object now -/
def setB (w : World) (r : Nat) (o : Obj) : World := { w with heap := w.heap.setIfInBounds r o }
theorem setB_frm {S : Nat → Prop} {w0 : World} (h : Frm S w0 w) (hr : S r ∨ w0.heap.size ≤ r) (o : Obj) : Frm S w0 (setB w r o) :=
  ⟨h.os, h.tape, h.output, by simpa [setB] using h.size, fun k hk hS => by
    simp only [setB, Array.getElem?_setIfInBounds]
    rw [if_neg (by rintro rfl; rcases hr with hr | hr <;> first | exact hS hr | omega)]
    exact h.block k hk hS⟩
theorem setB_at (hr : r < w.heap.size) (o : Obj) : (setB w r o).heap[r]? = some o := by
  simp [setB, hr]

/-- m[k] = v -/
theorem run_update_int (ht : P.underlying T = some (.map K E)) (hk : P.underlying K = some (.int .i64)) (h : IMap w r l) (x : Int) (v : Value) :
    ∃ w', (Instr.mapUpdate T (.map (some r)) (.int .i64 x) v).run P w = .ok () w' ∧ IMap w' r (mput l x v) ∧ Frm (isB r) w w' := by
  have hl := h.lt
  obtain ⟨es, c, hb, he⟩ := h
  have h1 : ∀ b, (Instr.checkKey b 10000 K (.int .i64 x)).run P w = .ok () w := fun b => checkKey_int (P := P) (w := w) hk b 9999 x
  have h2 := findKey_int (P := P) (w := w) hk he x
  cases hm : mfind x l 0 with
  | none =>
    refine ⟨setB w r (.map (es.push { key := .int .i64 x, val := v, born := c }) (c + 1)), ?_, ⟨_, _, setB_at hl _, ?_⟩, setB_frm (Frm.refl (isB r) w) (Or.inl (show isB r r from rfl)) _⟩
    · unfold Instr.mapUpdate
      simp only [go_sem, run_underlying ht, getObj, setObj, Sem.run_bind, Sem.run, hb, Result.andThen_ok, h1, h2, hm, setB]
    · rw [mput_miss hm]
      simp [he]
  | some q =>
    obtain ⟨i, u⟩ := q
    obtain ⟨_, hi, hmod⟩ := mput_hit (v := v) hm
    rw [Nat.sub_zero] at hi hmod
    have hlen : es.toList.length = l.length := by have := congrArg List.length he; simpa only [List.length_map] using this
    have hi' : i < es.size := by rw [Array.length_toList] at hlen; omega
    have hkey : es[i].key = .int .i64 x := by
      have hj : mfind x l 0 = some (i, u) := hm
      have key : ∀ (l : List (Int × Value)) (s j : Nat) (u : Value), mfind x l s = some (j, u) → ∀ (h : j - s < l.length), s ≤ j → l[j - s].1 = x := by
        intro l
        induction l with
        | nil => intro s j u h; simp [mfind] at h
        | cons p l ih =>
          intro s j u h hlt hs
          simp only [mfind] at h
          split at h
          · rename_i e; cases h; simpa using e
          · rename_i e
            have hb := (mput_hit (v := v) h).1
            have hlt' : j - (s + 1) < l.length := by simp at hlt; omega
            have := ih (s + 1) j u h hlt' hb
            have e2 : j - s = (j - (s + 1)) + 1 := by omega
            simp only [e2, List.getElem_cons_succ]
            exact this
      have h0 := key l 0 i u hj (by simpa using hi) (Nat.zero_le _)
      have h3 : (es.toList.map (fun e => (e.key, e.val)))[i]? = (l.map fun p => (Value.int .i64 p.1, p.2))[i]? := by rw [he]
      simp [hi', hi] at h3
      rw [h3.1]
      simp at h0
      rw [h0]
    refine ⟨setB w r (.map (es.modify i fun e => { e with key := .int .i64 x, val := v }) c), ?_, ⟨_, _, setB_at hl _, ?_⟩, setB_frm (Frm.refl (isB r) w) (Or.inl (show isB r r from rfl)) _⟩
    · have hst : (Instr.keyThatStays (.int .i64 x) (.int .i64 x)).run P w = .ok (.int .i64 x) w := by
        unfold Instr.keyThatStays
        simp [Instr.sameBits]
      unfold Instr.mapUpdate
      simp only [go_sem, run_underlying ht, getObj, setObj, Sem.run_bind, Sem.run, hb, Result.andThen_ok, h1, h2, hm, setB]
      have : ((es[i]?).map (·.key)).getD (.int .i64 x) = .int .i64 x := by simp [hi', hkey]
      simp only [this, hst, Result.andThen_ok, Sem.run, hb]
    · rw [← hmod, ← he]
      apply List.ext_getElem?
      intro k
      simp only [Array.toList_modify, List.getElem?_map, List.getElem?_modify]
      by_cases e : i = k
      · subst e; simp [hi']
      · simp [e]

/-- delete -/
theorem run_delete_int (ht : P.underlying T = some (.map K E)) (hk : P.underlying K = some (.int .i64)) (h : IMap w r l) (x : Int) (ty : TypeId) (K' : TypeId) :
    ∃ w', (Builtin.delete_ #[T, K'] ty #[.map (some r), .int .i64 x]).run P w = .ok (.tuple #[]) w' ∧ IMap w' r (mdel l x) ∧ Frm (isB r) w w' := by
  have hl := h.lt
  obtain ⟨es, c, hb, he⟩ := h
  have h1 : ∀ b, (Instr.checkKey b 10000 K (.int .i64 x)).run P w = .ok () w := fun b => checkKey_int (P := P) (w := w) hk b 9999 x
  have h2 := findKey_int (P := P) (w := w) hk he x
  cases hm : mfind x l 0 with
  | none =>
    refine ⟨setB w r (.map es c), ?_, ⟨_, _, setB_at hl _, ?_⟩, setB_frm (Frm.refl (isB r) w) (Or.inl (show isB r r from rfl)) _⟩
    · unfold Builtin.delete_
      simp [go_sem, run_underlying ht, getObj, setObj, Sem.run_bind, Sem.run, hb, h1, h2, hm, setB]
    · rw [mdel_miss hm]
      exact he
  | some q =>
    obtain ⟨i, u⟩ := q
    obtain ⟨_, hi, hmod⟩ := mdel_hit hm
    rw [Nat.sub_zero] at hi hmod
    have hlen : es.toList.length = l.length := by have := congrArg List.length he; simpa only [List.length_map] using this
    have hi' : i < es.size := by rw [Array.length_toList] at hlen; omega
    refine ⟨setB w r (.map (es.eraseIdxIfInBounds i) c), ?_, ⟨_, _, setB_at hl _, ?_⟩, setB_frm (Frm.refl (isB r) w) (Or.inl (show isB r r from rfl)) _⟩
    · unfold Builtin.delete_
      simp [go_sem, run_underlying ht, getObj, setObj, Sem.run_bind, Sem.run, hb, h1, h2, hm, setB]
    · rw [← hmod]
      have : (es.eraseIdxIfInBounds i).toList = es.toList.eraseIdx i := by
        simp [Array.eraseIdxIfInBounds, hi']
      rw [this, map_eraseIdx, map_eraseIdx, he]

/-- clear -/
theorem run_clear_int (ht : P.underlying T = some (.map K E)) (h : IMap w r l) (ty : TypeId) :
    ∃ w', (Builtin.clear_ #[T] ty #[.map (some r)]).run P w = .ok (.tuple #[]) w' ∧ IMap w' r [] ∧ Frm (isB r) w w' := by
  have hl := h.lt
  obtain ⟨es, c, hb, he⟩ := h
  refine ⟨setB w r (.map #[] c), ?_, ⟨_, _, setB_at hl _, rfl⟩, setB_frm (Frm.refl (isB r) w) (Or.inl (show isB r r from rfl)) _⟩
  unfold Builtin.clear_
  simp [go_sem, run_underlying ht, getObj, setObj, Sem.run_bind, Sem.run, hb, setB]

section
variable {ops : Array Oper} {rest : List Oper} {o : Oper} {a : Act} {Q : Exit → Act → World → Prop}
/-- m[k] = v, for the walk -/
theorem mapPut (ht : P.underlying T = some (.map K E)) (hk : P.underlying K = some (.int .i64)) (hg : o.guard = none) (h : IMap w r l) (m x v : Operand) (ho : o.op = Op.mapUpdate T m x v) {i : Int} {u : Value}
    (hm : a.eval m = .map (some r)) (hx : a.eval x = .int .i64 i) (hv : a.eval v = u) (hK : ∀ w', IMap w' r (mput l i u) → Frm (isB r) w w' → wpList P ops Q rest (a.put o.dst undef) w') : wpList P ops Q (o :: rest) a w := by
  refine wpList_plain hg fun K' hK' => ?_
  obtain ⟨w', hrun, r1, r2⟩ := run_update_int (P := P) ht hk h i u
  unfold Oper.wp
  simp [execOp, ho, hm, hx, hv, hrun, Result.andThen]
  exact hK' _ _ (hK w' r1 r2)
theorem step_mapPut {K' : Act → World → Prop} {El : Prop} (ht : P.underlying T = some (.map K E)) (hk : P.underlying K = some (.int .i64)) (hg : o.guard = none) (h : IMap w r l) (m x v : Operand) (ho : o.op = Op.mapUpdate T m x v) {i : Int} {u : Value}
    (hm : a.eval m = .map (some r)) (hx : a.eval x = .int .i64 i) (hv : a.eval v = u) (hK : ∀ w', IMap w' r (mput l i u) → Frm (isB r) w w' → K' (a.put o.dst undef) w') :
    if Region.wanted o (yielded ops a.tmps) = true then Oper.wp P o a w K' Q else El := by
  rw [if_pos (by simp [Region.wanted, hg])]
  obtain ⟨w', hrun, r1, r2⟩ := run_update_int (P := P) ht hk h i u
  unfold Oper.wp
  simp [execOp, ho, hm, hx, hv, hrun, Result.andThen]
  exact hK w' r1 r2
/-- delete, for the walk -/
theorem mapDel (ht : P.underlying T = some (.map K E)) (hk : P.underlying K = some (.int .i64)) (hg : o.guard = none) (h : IMap w r l) (m x : Operand) {KT : TypeId} (ho : o.op = Op.call { callee := Callee.builtin Builtin.delete, args := #[m, x], argTypes := #[T, KT] }) {i : Int}
    (hm : a.eval m = .map (some r)) (hx : a.eval x = .int .i64 i) (hK : ∀ w', IMap w' r (mdel l i) → Frm (isB r) w w' → wpList P ops Q rest (a.put o.dst (.tuple #[])) w') : wpList P ops Q (o :: rest) a w := by
  refine wpList_plain hg fun K' hK' => ?_
  obtain ⟨w', hrun, r1, r2⟩ := run_delete_int (P := P) ht hk h i o.type KT
  unfold Oper.wp
  simp [execOp, ho, resolve, invoke, builtin, hm, hx, hrun, Result.andThen]
  exact hK' _ _ (hK w' r1 r2)
/-- clear, for the walk -/
theorem mapClear (ht : P.underlying T = some (.map K E)) (hg : o.guard = none) (h : IMap w r l) (m : Operand) (ho : o.op = Op.call { callee := Callee.builtin Builtin.clear, args := #[m], argTypes := #[T] })
    (hm : a.eval m = .map (some r)) (hK : ∀ w', IMap w' r [] → Frm (isB r) w w' → wpList P ops Q rest (a.put o.dst (.tuple #[])) w') : wpList P ops Q (o :: rest) a w := by
  refine wpList_plain hg fun K' hK' => ?_
  obtain ⟨w', hrun, r1, r2⟩ := run_clear_int (P := P) ht h o.type
  unfold Oper.wp
  simp [execOp, ho, resolve, invoke, builtin, hm, hrun, Result.andThen]
  exact hK' _ _ (hK w' r1 r2)
end
end
end Go.Proofs.Ytjnoddbhfcpniaa
