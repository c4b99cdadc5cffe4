/-
  Words on memory: a frame of blocks that may turn, slices that read as lists, append and make on rows of the call's own. No program in sight.
-/
import Derived.WalkKit
import Derived.Deep.QuietTactic
import Derived.BigQuiet
import Derived.Deep.Draws
import Derived.Handy
import Derived.Maps.AppendAt
import Derived.Lib.Hide
namespace Go.Proofs.Ytjnoddbhfcpniaa
open Go.RowKit
set_option linter.unusedVariables false
set_option linter.unusedSimpArgs false

/-- no block -/
def noB : Nat → Prop := fun _ => False
/-- the block of an owned row -/
def oB (v : Value) : Nat → Prop := fun k => v.ownBlock = some k

/-- w' is w with new blocks, and with writes to blocks of S alone -/
structure Frm (S : Nat → Prop) (w w' : World) : Prop where
  os : w'.os = w.os
  tape : w'.tape = w.tape
  output : w'.output = w.output
  size : w.heap.size ≤ w'.heap.size
  block : ∀ k, k < w.heap.size → ¬ S k → w'.heap[k]? = w.heap[k]?

section
variable {S T : Nat → Prop} {w w1 w2 : World}
theorem Frm.refl (S : Nat → Prop) (w : World) : Frm S w w := ⟨rfl, rfl, rfl, Nat.le_refl _, fun _ _ _ => rfl⟩
theorem Frm.trans (h : Frm S w w1) (h' : Frm T w1 w2) (hT : ∀ k, k < w.heap.size → T k → S k) : Frm S w w2 :=
  ⟨h'.os.trans h.os, h'.tape.trans h.tape, h'.output.trans h.output, Nat.le_trans h.size h'.size, fun k hk hS =>
    (h'.block k (Nat.lt_of_lt_of_le hk h.size) (fun ht => hS (hT k hk ht))).trans (h.block k hk hS)⟩
theorem Frm.trans' (h : Frm S w w1) (h' : Frm S w1 w2) : Frm S w w2 := h.trans h' fun _ _ h => h
theorem Frm.mono (h : Frm S w w1) (hT : ∀ k, k < w.heap.size → S k → T k) : Frm T w w1 :=
  ⟨h.os, h.tape, h.output, h.size, fun k hk hS => h.block k hk fun hs => hS (hT k hk hs)⟩
theorem Frm.any (h : Frm noB w w1) : Frm S w w1 := h.mono fun _ _ h => h.elim
theorem Frm.drewN (h : Frm S w w1) (n : Nat) : Frm S w (w1.drewN n) := ⟨h.os, h.tape, h.output, h.size, h.block⟩
theorem Frm.drew (h : Frm S w w1) : Frm S w w1.drew := ⟨h.os, h.tape, h.output, h.size, h.block⟩
theorem Frm.alloc (h : Frm S w w1) (o : Obj) : Frm S w (w1.alloc o) :=
  ⟨h.os, h.tape, h.output, Nat.le_trans h.size (by simp), fun k hk hS => (Below.heap_alloc w1 o k (Nat.lt_of_lt_of_le hk h.size)).trans (h.block k hk hS)⟩
theorem Frm.setCell (h : Frm S w w1) {a : Addr} (ha : S a.block ∨ w.heap.size ≤ a.block) (u : Value) : Frm S w (w1.setCell a u) :=
  ⟨h.os, h.tape, h.output, by simpa [World.setCell] using h.size, fun k hk hS => by
    rw [Below.heap_setCell w1 a u k (by rintro rfl; rcases ha with ha | ha <;> first | exact hS ha | omega)]
    exact h.block k hk hS⟩
theorem Frm.setRow (h : Frm S w w1) {g : Nat} (hg : S g ∨ w.heap.size ≤ g) (cs : Array Value) : Frm S w (w1.setRow g cs) := by
  have hb : ∀ k, k ≠ g → (w1.setRow g cs).heap[k]? = w1.heap[k]? := by
    intro k hk
    simp only [World.setRow, Array.getElem?_modify]
    rw [if_neg (fun e => hk e.symm)]
  exact ⟨h.os, h.tape, h.output, by simpa [World.setRow] using h.size, fun k hk hS => by
    rw [hb k (by rintro rfl; rcases hg with hg | hg <;> first | exact hS hg | omega)]; exact h.block k hk hS⟩
theorem Frm.grown (h : Frm S w w1) {row : Option Nat} (hg : w1.grownBy w2 row) (hr : ∀ k, row = some k → S k ∨ w.heap.size ≤ k) : Frm S w w2 :=
  ⟨hg.os.trans h.os, hg.tape.trans h.tape, hg.output.trans h.output, Nat.le_trans h.size hg.size, fun k hk hS =>
    (hg.block k (Nat.lt_of_lt_of_le hk h.size) (fun e => by rcases hr k e.symm with h | h <;> first | exact hS h | omega)).trans (h.block k hk hS)⟩
theorem Frm.cell (h : Frm S w w1) {p : Addr} (hp : p.block < w.heap.size) (hS : ¬ S p.block) : w1.cell? p = w.cell? p := World.cell?_of_block (h.block _ hp hS)
theorem Frm.cell_some (h : Frm S w w1) {p : Addr} {v : Value} (hc : w.cell? p = some v) (hS : ¬ S p.block) : w1.cell? p = some v :=
  (h.cell (World.block_lt_of_cell? w p hc) hS).trans hc
theorem Frm.frozen (h : Frm S w w1) {p : Addr} (hp : p.block < w.heap.size) (hS : ¬ S p.block) : w1.frozen? p = w.frozen? p := World.frozen?_of_block (h.block _ hp hS)
theorem Frm.below (h : Frm S w w1) (hS : ∀ k, k < w.heap.size → ¬ S k) : Below w.heap.size w w1 := ⟨h.os, h.tape, h.output, h.size, fun k hk => h.block k hk (hS k hk)⟩
theorem Frm.below' (h : Frm noB w w1) : Below w.heap.size w w1 := h.below fun _ _ h => h
theorem Frm.of_below (h : Below w.heap.size w w1) : Frm noB w w1 := ⟨h.os, h.tape, h.output, h.size, fun k hk _ => h.block k hk⟩
theorem Frm.of_drewN (S : Nat → Prop) (w : World) (n : Nat) : Frm S w (w.drewN n) := (Frm.refl S w).drewN n
end

/-- the slice whose address is A reads as the cells xs -/
def Rd (w : World) (A : Option Addr) (xs : List Value) : Prop :=
  ∀ i (h : i < xs.length), ∃ b off, A = some ⟨b, off, none⟩ ∧ w.cell? ⟨b, off + i, none⟩ = some xs[i]
/-- the block of an address -/
def aB (A : Option Addr) : Nat → Prop := fun k => ∃ a, A = some a ∧ a.block = k

section
variable {S : Nat → Prop} {w w' : World} {A : Option Addr} {xs : List Value}
theorem Rd.nil (w : World) (A : Option Addr) : Rd w A [] := fun i h => absurd h (by simp)
theorem Rd.frm (h : Rd w A xs) (hf : Frm S w w') (hS : ∀ k, aB A k → ¬ S k) : Rd w' A xs := by
  intro i hi
  obtain ⟨b, off, rfl, hc⟩ := h i hi
  exact ⟨b, off, rfl, hf.cell_some hc (hS b ⟨_, rfl, rfl⟩)⟩
theorem Rd.frm' (h : Rd w A xs) (hf : Frm noB w w') : Rd w' A xs := h.frm hf fun _ _ h => h
theorem Rd.drewN (h : Rd w A xs) (n : Nat) : Rd (w.drewN n) A xs := h
theorem Rd.drew (h : Rd w A xs) : Rd w.drew A xs := h
theorem Rd.alloc (h : Rd w A xs) (o : Obj) : Rd (w.alloc o) A xs := h.frm' ((Frm.refl _ _).alloc o)
theorem Rd.lt (h : Rd w A xs) (hx : 0 < xs.length) : ∀ k, aB A k → k < w.heap.size := by
  rintro k ⟨a, rfl, rfl⟩
  obtain ⟨b, off, e, hc⟩ := h 0 hx
  injection e with e
  subst e
  exact World.block_lt_of_cell? w _ hc
theorem Rd.of_own {base e n c : Nat} (h : w.ownsRow base e 1 (.slice A n c) n xs) : Rd w A xs := by
  intro i hi
  have hl := h.1
  obtain ⟨g, hA⟩ : ∃ g, A = some ⟨g, 0, none⟩ := by
    rcases h.2 with ⟨_, h0⟩ | ⟨g, cap, cur, hv, _⟩
    · omega
    · exact ⟨g, by injection hv⟩
  subst hA
  refine ⟨g, 0, rfl, ?_⟩
  have := h.cells (g := g) rfl i xs[i] (List.getElem?_eq_getElem hi)
  rw [← this]
  unfold Addr.add; split <;> simp_all
end

/-- an owned row is a slice -/
theorem own_slice {w : World} {base e size n : Nat} {v : Value} {xs : List Value} (h : w.ownsRow base e size v n xs) : ∃ A c, v = .slice A n c ∧ n ≤ c := by
  rcases h.2 with ⟨rfl, rfl⟩ | ⟨g, cap, cur, rfl, _, _, hn, _⟩
  · exact ⟨none, 0, rfl, Nat.le_refl _⟩
  · exact ⟨_, cap, rfl, hn⟩
theorem own_frm {S : Nat → Prop} {w w' : World} {base e size n : Nat} {v : Value} {xs : List Value} (h : w.ownsRow base e size v n xs) (hf : Frm S w w') (hS : ∀ k, oB v k → ¬ S k) : w'.ownsRow base e size v n xs := by
  refine ⟨h.1, ?_⟩
  rcases h.2 with hn | ⟨g, cap, cur, rfl, hb, hg, rest⟩
  · exact .inl hn
  · refine .inr ⟨g, cap, cur, rfl, hb, ?_, rest⟩
    rw [hf.block g (Array.getElem?_eq_some_iff.1 hg).1 (hS g rfl)]
    exact hg
theorem own_frm' {w w' : World} {base e size n : Nat} {v : Value} {xs : List Value} (h : w.ownsRow base e size v n xs) (hf : Frm noB w w') : w'.ownsRow base e size v n xs := own_frm h hf fun _ _ h => h
theorem own_lt {w : World} {base e size n : Nat} {v : Value} {xs : List Value} (h : w.ownsRow base e size v n xs) : ∀ k, oB v k → base ≤ k ∧ k < w.heap.size := fun k hk => h.lt k hk
theorem own_base {w : World} {base base' e size n : Nat} {v : Value} {xs : List Value} (h : w.ownsRow base e size v n xs) (hb : ∀ k, oB v k → base' ≤ k) : w.ownsRow base' e size v n xs := by
  refine ⟨h.1, ?_⟩
  rcases h.2 with hn | ⟨g, cap, cur, rfl, _, hg, rest⟩
  · exact .inl hn
  · exact .inr ⟨g, cap, cur, rfl, hb g rfl, hg, rest⟩

/-- what the tables say of a slice type and of its elements -/
structure EInfo (P : Program) (t e size bytes : Nat) (z : Value) : Prop where
  ht : P.underlying t = some (.slice e)
  hi : ∃ i, P.info? e = some i ∧ i.zero = some z ∧ i.size = size ∧ i.bytes = bytes
  hz : z.cells.size = size
  pos : 0 < size

section
variable {P : Program} {ops : Array Oper} {rest : List Oper} {o : Oper} {a : Act} {Q : Exit → Act → World → Prop} {t e size bytes : Nat} {z : Value} {w : World}

/-- append onto a row of the call's own -/
theorem wp_app {K : Act → World → Prop} (E : EInfo P t e size bytes z) (base : Nat) {v : Value} {n : Nat} {xs : List Value} (hown : w.ownsRow base e size v n xs) (s x : Operand) (ho : o.op = .call { callee := .builtin .append, args := #[s, x], argTypes := #[t, t] }) (hs : a.eval s = v)
    {A : Option Addr} {m c : Nat} {news : List Value} (hx : a.eval x = .slice A m c) (hl : news.length = m * size) (hr : Rd w A news) (h1 : ∀ u ∈ news, u.oneCell' = true)
    (hn : n + m ≤ 9007199254740992) (hbytes : (n + m) * bytes ≤ 140737488355328) (hbase : base ≤ w.heap.size)
    (h : ∀ A' c' w', w'.ownsRow base e size (.slice A' (n + m) c') (n + m) (xs ++ news) → n + m ≤ c' → Frm (oB v) w w' → (∀ k, oB (.slice A' (n + m) c') k → oB v k ∨ w.heap.size ≤ k) → K (a.put o.dst (.slice A' (n + m) c')) w') : o.wp P a w K Q := by
  obtain ⟨i, hi, hz, hsz, hby⟩ := E.hi
  have hml : n + m ≤ maxLen := by unfold maxLen; omega
  have frm : ∀ {w'}, w.grownBy w' v.ownBlock → Frm (oB v) w w' := fun hg => (Frm.refl _ _).grown hg fun k hk => .inl hk
  have key : ∃ v' w', (Builtin.append_ #[t, t] o.type #[v, .slice A m c]).run P w = .ok v' w' ∧ w'.ownsRow base e size v' (n + m) (xs ++ news) ∧ w.grownBy w' v.ownBlock ∧ (v'.ownBlock = v.ownBlock ∨ v'.ownBlock = some w.heap.size) := by
    rcases A with _ | ad
    · have hm : m = 0 := by
        rcases Nat.eq_zero_or_pos m with h0 | h0
        · exact h0
        · have hp : 0 < news.length := by rw [hl]; exact Nat.mul_pos h0 E.pos
          obtain ⟨b, off, hh, _⟩ := hr 0 hp
          cases hh
      subst hm
      have hn : news = [] := List.eq_nil_of_length_eq_zero (by simpa using hl)
      subst hn
      refine ⟨v, w, ?_, by simpa using hown, World.grownBy.refl w _, .inl rfl⟩
      rcases hown.2 with ⟨rfl, rfl⟩ | ⟨g, cap, cur, rfl, _, _, hnc, _⟩
      · simp [Builtin.append_, run_underlying E.ht, sizeOf, typeInfo, hi, Builtin.lenOf, Builtin.firstCells]
      · simp [Builtin.append_, run_underlying E.ht, sizeOf, typeInfo, hi, Builtin.lenOf, Builtin.firstCells, hnc, storeCells]
    · have hcells : ∀ j u, news[j]? = some u → w.cell? (ad.add j) = some u := by
        intro j u hu
        obtain ⟨hj, rfl⟩ := List.getElem?_eq_some_iff.1 hu
        obtain ⟨b, off, e, hc⟩ := hr j hj
        injection e with e
        subst e
        unfold Addr.add
        split
        · rename_i h0; subst h0; simpa using hc
        · exact hc
      obtain ⟨v', w', hrun, h2, h3, _, h5⟩ := run_append_own_at (P := P) w base t o.type e i z size bytes E.ht hi hz hsz hby E.hz E.pos v n xs hown ad m c news hl hcells h1 hml hbytes hbase
      exact ⟨v', w', hrun, h2, h3, h5⟩
  obtain ⟨v', w', hrun, h2, h3, h4⟩ := key
  unfold Oper.wp execOp
  simp only [ho, resolve, invoke, builtin, Sem.run_bind, Sem.run_pure, Result.andThen_ok, List.map_toArray, List.map_cons, List.map_nil, hs, hx, hrun]
  obtain ⟨A', c', rfl, hc'⟩ := own_slice h2
  refine h A' c' w' h2 hc' (frm h3) fun k hk => ?_
  rcases h4 with h4 | h4
  · exact .inl (by unfold oB at hk ⊢; rw [← h4]; exact hk)
  · right; unfold oB at hk; rw [h4] at hk; injection hk with hk; omega

theorem app (E : EInfo P t e size bytes z) (hgd : o.guard = none) (base : Nat) {v : Value} {n : Nat} {xs : List Value} (hown : w.ownsRow base e size v n xs) (s x : Operand) (ho : o.op = .call { callee := .builtin .append, args := #[s, x], argTypes := #[t, t] }) (hs : a.eval s = v)
    {A : Option Addr} {m c : Nat} {news : List Value} (hx : a.eval x = .slice A m c) (hl : news.length = m * size) (hr : Rd w A news) (h1 : ∀ u ∈ news, u.oneCell' = true)
    (hn : n + m ≤ 9007199254740992) (hbytes : (n + m) * bytes ≤ 140737488355328) (hbase : base ≤ w.heap.size)
    (h : ∀ A' c' w', w'.ownsRow base e size (.slice A' (n + m) c') (n + m) (xs ++ news) → n + m ≤ c' → Frm (oB v) w w' → (∀ k, oB (.slice A' (n + m) c') k → oB v k ∨ w.heap.size ≤ k) → wpList P ops Q rest (a.put o.dst (.slice A' (n + m) c')) w') : wpList P ops Q (o :: rest) a w :=
  wpList_plain hgd fun K hK => wp_app E base hown s x ho hs hx hl hr h1 hn hbytes hbase fun A' c' w' a b c d => hK _ _ (h A' c' w' a b c d)
theorem step_app {K : Act → World → Prop} {El : Prop} (E : EInfo P t e size bytes z) (hgd : o.guard = none) (base : Nat) {v : Value} {n : Nat} {xs : List Value} (hown : w.ownsRow base e size v n xs) (s x : Operand) (ho : o.op = .call { callee := .builtin .append, args := #[s, x], argTypes := #[t, t] }) (hs : a.eval s = v)
    {A : Option Addr} {m c : Nat} {news : List Value} (hx : a.eval x = .slice A m c) (hl : news.length = m * size) (hr : Rd w A news) (h1 : ∀ u ∈ news, u.oneCell' = true)
    (hn : n + m ≤ 9007199254740992) (hbytes : (n + m) * bytes ≤ 140737488355328) (hbase : base ≤ w.heap.size)
    (h : ∀ A' c' w', w'.ownsRow base e size (.slice A' (n + m) c') (n + m) (xs ++ news) → n + m ≤ c' → Frm (oB v) w w' → (∀ k, oB (.slice A' (n + m) c') k → oB v k ∨ w.heap.size ≤ k) → K (a.put o.dst (.slice A' (n + m) c')) w') : if Region.wanted o (yielded ops a.tmps) = true then Oper.wp P o a w K Q else El := by
  rw [if_pos (by simp [Region.wanted, hgd])]
  exact wp_app E base hown s x ho hs hx hl hr h1 hn hbytes hbase h

/-- append of one element, which lies in a block of its own that has just been laid -/
theorem wp_app1 {K : Act → World → Prop} (E : EInfo P t e 1 bytes z) (base : Nat) {v : Value} {n : Nat} {xs : List Value} {y : Value} (hown : w.ownsRow base e 1 v n xs) (s x : Operand) (ho : o.op = .call { callee := .builtin .append, args := #[s, x], argTypes := #[t, t] }) (hs : a.eval s = v)
    (hx : a.eval x = .slice (some ⟨w.heap.size, 0, none⟩) 1 1) (hy : y.oneCell' = true)
    (hn : n + 1 ≤ 9007199254740992) (hbytes : (n + 1) * bytes ≤ 140737488355328) (hbase : base ≤ w.heap.size)
    (h : ∀ A' c' w', w'.ownsRow base e 1 (.slice A' (n + 1) c') (n + 1) (xs ++ [y]) → n + 1 ≤ c' → Frm (oB v) w w' → (∀ k, oB (.slice A' (n + 1) c') k → oB v k ∨ w.heap.size ≤ k) → K (a.put o.dst (.slice A' (n + 1) c')) w') : o.wp P a (w.alloc (.cells #[y] e)) K Q := by
  have ha : Frm noB w (w.alloc (.cells #[y] e)) := (Frm.refl _ _).alloc _
  refine wp_app E base (own_frm' hown ha) s x ho hs hx (news := [y]) (by simp) ?_ (by simpa using hy) hn hbytes (Nat.le_trans hbase ha.size) fun A' c' w' h1 hc h2 h3 => ?_
  · intro i hi
    have : i = 0 := by simp at hi; omega
    subst this
    exact ⟨_, 0, rfl, by rw [Nat.zero_add, cell_of_row _ _ 0 #[y] e (0, 0) (heap_alloc_new w _)]; rfl⟩
  · refine h A' c' w' h1 hc ((ha.any (S := oB v)).trans' h2) fun k hk => ?_
    rcases h3 k hk with h | h
    · exact .inl h
    · exact .inr (Nat.le_trans ha.size h)

theorem app1 (E : EInfo P t e 1 bytes z) (hgd : o.guard = none) (base : Nat) {v : Value} {n : Nat} {xs : List Value} {y : Value} (hown : w.ownsRow base e 1 v n xs) (s x : Operand) (ho : o.op = .call { callee := .builtin .append, args := #[s, x], argTypes := #[t, t] }) (hs : a.eval s = v)
    (hx : a.eval x = .slice (some ⟨w.heap.size, 0, none⟩) 1 1) (hy : y.oneCell' = true)
    (hn : n + 1 ≤ 9007199254740992) (hbytes : (n + 1) * bytes ≤ 140737488355328) (hbase : base ≤ w.heap.size)
    (h : ∀ A' c' w', w'.ownsRow base e 1 (.slice A' (n + 1) c') (n + 1) (xs ++ [y]) → n + 1 ≤ c' → Frm (oB v) w w' → (∀ k, oB (.slice A' (n + 1) c') k → oB v k ∨ w.heap.size ≤ k) → wpList P ops Q rest (a.put o.dst (.slice A' (n + 1) c')) w') : wpList P ops Q (o :: rest) a (w.alloc (.cells #[y] e)) :=
  wpList_plain hgd fun K hK => wp_app1 E base hown s x ho hs hx hy hn hbytes hbase fun A' c' w' a b c d => hK _ _ (h A' c' w' a b c d)
theorem step_app1 {K : Act → World → Prop} {El : Prop} (E : EInfo P t e 1 bytes z) (hgd : o.guard = none) (base : Nat) {v : Value} {n : Nat} {xs : List Value} {y : Value} (hown : w.ownsRow base e 1 v n xs) (s x : Operand) (ho : o.op = .call { callee := .builtin .append, args := #[s, x], argTypes := #[t, t] }) (hs : a.eval s = v)
    (hx : a.eval x = .slice (some ⟨w.heap.size, 0, none⟩) 1 1) (hy : y.oneCell' = true)
    (hn : n + 1 ≤ 9007199254740992) (hbytes : (n + 1) * bytes ≤ 140737488355328) (hbase : base ≤ w.heap.size)
    (h : ∀ A' c' w', w'.ownsRow base e 1 (.slice A' (n + 1) c') (n + 1) (xs ++ [y]) → n + 1 ≤ c' → Frm (oB v) w w' → (∀ k, oB (.slice A' (n + 1) c') k → oB v k ∨ w.heap.size ≤ k) → K (a.put o.dst (.slice A' (n + 1) c')) w') : if Region.wanted o (yielded ops a.tmps) = true then Oper.wp P o a (w.alloc (.cells #[y] e)) K Q else El := by
  rw [if_pos (by simp [Region.wanted, hgd])]
  exact wp_app1 E base hown s x ho hs hx hy hn hbytes hbase h

/-- make([]T, 0, n) -/
theorem mk0 (E : EInfo P t e size bytes z) (hg : o.guard = none) (l c : Operand) (hop : o.op = Op.makeSlice t l c) (base : Nat)
    {kl kc : IntKind} {C : Int} (n : Nat) (hl : a.eval l = .int kl 0) (hc : a.eval c = .int kc C) (hC : C = (n : Int)) (hn : n ≤ 9007199254740992) (hb : bytes * n ≤ 281474976710656) (hbase : base ≤ w.heap.size)
    (h : ∀ w', w'.ownsRow base e size (.slice (some ⟨w.heap.size, 0, none⟩) 0 n) 0 [] → Frm noB w w' → wpList P ops Q rest (a.put o.dst (.slice (some ⟨w.heap.size, 0, none⟩) 0 n)) w') : wpList P ops Q (o :: rest) a w := by
  obtain ⟨i, hi, hz, hsz, hby⟩ := E.hi
  refine wpList_make_own w hg l c t hop base e i z size E.ht hi hz hsz kl kc C n hl hc hC (by rw [hby]; exact hb) (by unfold maxLen; omega) hbase fun w' h1 h2 => h w' h1 ((Frm.refl _ _).grown h2 fun k hk => by cases hk)
/-- make([]T, n) of elements of one cell -/
theorem mkN (E : EInfo P t e 1 bytes z) (hz1 : z.cells = #[z]) (hg : o.guard = none) (l c : Operand) (hop : o.op = Op.makeSlice t l c) (base : Nat)
    {kl kc : IntKind} {L C : Int} (n : Nat) (hl : a.eval l = .int kl L) (hc : a.eval c = .int kc C) (hL : L = (n : Int)) (hC : C = (n : Int)) (hn : n ≤ 9007199254740992) (hb : bytes * n ≤ 281474976710656) (hbase : base ≤ w.heap.size)
    (h : ∀ w', w'.ownsRow base e 1 (.slice (some ⟨w.heap.size, 0, none⟩) n n) n (List.replicate n z) → Frm noB w w' → wpList P ops Q rest (a.put o.dst (.slice (some ⟨w.heap.size, 0, none⟩) n n)) w') : wpList P ops Q (o :: rest) a w := by
  obtain ⟨i, hi, hz, hsz, hby⟩ := E.hi
  refine wpList_make_full w hg l c t hop base e i z 1 E.ht hi hz hsz kl kc L C n hl hc hL hC (by rw [hby]; exact hb) (by unfold maxLen; omega) hbase fun w' h1 h2 => h w' ?_ ((Frm.refl _ _).grown h2 fun k hk => by cases hk)
  rw [hz1, Nat.mul_one, toList_madeCells_one] at h1
  exact h1
end

end Go.Proofs.Ytjnoddbhfcpniaa
