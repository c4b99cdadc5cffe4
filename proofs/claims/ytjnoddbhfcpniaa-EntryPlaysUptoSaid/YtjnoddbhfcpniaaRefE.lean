/-
  EntryPlays: the document's entry in memory; New, Begin.
-/
import Derived.Test.YtjnoddbhfcpniaaPlayP
namespace Go.Proofs.Ytjnoddbhfcpniaa
open Go.RowKit
set_option linter.unusedVariables false
set_option linter.unusedSimpArgs false

theorem infoTk : EInfo Try.prog 89 92 2 32 (.agg #[.int .i64 0, .slice none 0 0]) := by
  obtain ⟨i, h1, h2, h3, h4⟩ := info_parts (show (Try.prog.info? 92).map (fun i => (i.zero, i.size, i.bytes)) = some (some (.agg #[.int .i64 0, .slice none 0 0]), 2, 32) by kernel_rfl)
  exact ⟨Try.underlying89, ⟨i, h1, h2, h3, h4⟩, rfl, by decide⟩
section
variable {P : Program} {ops : Array Oper} {rest : List Oper} {o : Oper} {a : Act} {Q : Exit → Act → World → Prop} {t e bytes : Nat} {z : Value} {w : World}
/-- append of one element of two cells, which lies in a block of its own that has just been laid -/
theorem wp_app2 {K : Act → World → Prop} (E : EInfo P t e 2 bytes z) (base : Nat) {v : Value} {n : Nat} {xs : List Value} {y0 y1 : Value} (hown : w.ownsRow base e 2 v n xs) (s x : Operand) (ho : o.op = .call { callee := .builtin .append, args := #[s, x], argTypes := #[t, t] }) (hs : a.eval s = v)
    (hx : a.eval x = .slice (some ⟨w.heap.size, 0, none⟩) 1 1) (hy0 : y0.oneCell' = true) (hy1 : y1.oneCell' = true)
    (hn : n + 1 ≤ 9007199254740992) (hbytes : (n + 1) * bytes ≤ 140737488355328) (hbase : base ≤ w.heap.size)
    (h : ∀ A' c' w', w'.ownsRow base e 2 (.slice A' (n + 1) c') (n + 1) (xs ++ [y0, y1]) → n + 1 ≤ c' → Frm (oB v) w w' → (∀ k, oB (.slice A' (n + 1) c') k → oB v k ∨ w.heap.size ≤ k) → K (a.put o.dst (.slice A' (n + 1) c')) w') : o.wp P a (w.alloc (.cells #[y0, y1] e)) K Q := by
  have ha : Frm noB w (w.alloc (.cells #[y0, y1] e)) := (Frm.refl _ _).alloc _
  refine wp_app E base (own_frm' hown ha) s x ho hs hx (news := [y0, y1]) (by simp) ?_ (by simp [hy0, hy1]) hn hbytes (Nat.le_trans hbase ha.size) fun A' c' w' h1 hc h2 h3 => ?_
  · intro i hi
    have hc := cell_of_row _ _ i #[y0, y1] e (0, 0) (heap_alloc_new w (.cells #[y0, y1] e))
    refine ⟨_, 0, rfl, ?_⟩
    rw [Nat.zero_add, hc]
    simp only [List.length_cons, List.length_nil] at hi
    rcases i with _ | _ | i
    · rfl
    · rfl
    · omega
  · refine h A' c' w' h1 hc ((ha.any (S := oB v)).trans' h2) fun k hk => ?_
    rcases h3 k hk with h | h
    · exact .inl h
    · exact .inr (Nat.le_trans ha.size h)
theorem app2 (E : EInfo P t e 2 bytes z) (hgd : o.guard = none) (base : Nat) {v : Value} {n : Nat} {xs : List Value} {y0 y1 : Value} (hown : w.ownsRow base e 2 v n xs) (s x : Operand) (ho : o.op = .call { callee := .builtin .append, args := #[s, x], argTypes := #[t, t] }) (hs : a.eval s = v)
    (hx : a.eval x = .slice (some ⟨w.heap.size, 0, none⟩) 1 1) (hy0 : y0.oneCell' = true) (hy1 : y1.oneCell' = true)
    (hn : n + 1 ≤ 9007199254740992) (hbytes : (n + 1) * bytes ≤ 140737488355328) (hbase : base ≤ w.heap.size)
    (h : ∀ A' c' w', w'.ownsRow base e 2 (.slice A' (n + 1) c') (n + 1) (xs ++ [y0, y1]) → n + 1 ≤ c' → Frm (oB v) w w' → (∀ k, oB (.slice A' (n + 1) c') k → oB v k ∨ w.heap.size ≤ k) → wpList P ops Q rest (a.put o.dst (.slice A' (n + 1) c')) w') : wpList P ops Q (o :: rest) a (w.alloc (.cells #[y0, y1] e)) :=
  wpList_plain hgd fun K hK => wp_app2 E base hown s x ho hs hx hy0 hy1 hn hbytes hbase fun A' c' w' a b c d => hK _ _ (h A' c' w' a b c d)
theorem step_app2 {K : Act → World → Prop} {El : Prop} (E : EInfo P t e 2 bytes z) (hgd : o.guard = none) (base : Nat) {v : Value} {n : Nat} {xs : List Value} {y0 y1 : Value} (hown : w.ownsRow base e 2 v n xs) (s x : Operand) (ho : o.op = .call { callee := .builtin .append, args := #[s, x], argTypes := #[t, t] }) (hs : a.eval s = v)
    (hx : a.eval x = .slice (some ⟨w.heap.size, 0, none⟩) 1 1) (hy0 : y0.oneCell' = true) (hy1 : y1.oneCell' = true)
    (hn : n + 1 ≤ 9007199254740992) (hbytes : (n + 1) * bytes ≤ 140737488355328) (hbase : base ≤ w.heap.size)
    (h : ∀ A' c' w', w'.ownsRow base e 2 (.slice A' (n + 1) c') (n + 1) (xs ++ [y0, y1]) → n + 1 ≤ c' → Frm (oB v) w w' → (∀ k, oB (.slice A' (n + 1) c') k → oB v k ∨ w.heap.size ≤ k) → K (a.put o.dst (.slice A' (n + 1) c')) w') : if Region.wanted o (yielded ops a.tmps) = true then Oper.wp P o a (w.alloc (.cells #[y0, y1] e)) K Q else El := by
  rw [if_pos (by simp [Region.wanted, hgd])]
  exact wp_app2 E base hown s x ho hs hx hy0 hy1 hn hbytes hbase h
end

/-- pairs as cells -/
def fl : List (Int × Value) → List Value
  | [] => []
  | x :: r => iv x.1 :: x.2 :: fl r
theorem fl_length : ∀ l : List (Int × Value), (fl l).length = l.length * 2
  | [] => rfl
  | x :: r => by simp only [fl, List.length_cons, fl_length r]; omega
theorem fl_append : ∀ l m : List (Int × Value), fl (l ++ m) = fl l ++ fl m
  | [], m => rfl
  | x :: r, m => by simp only [fl, List.cons_append, fl_append r m]
theorem fl_at : ∀ (l : List (Int × Value)) (i : Nat) (h : i < l.length), (fl l)[2 * i]? = some (iv l[i].1) ∧ (fl l)[2 * i + 1]? = some l[i].2
  | [], i, h => absurd h (by simp)
  | x :: r, 0, h => ⟨rfl, rfl⟩
  | x :: r, i + 1, h => by
    have := fl_at r i (by simpa using h)
    rw [show 2 * (i + 1) = 2 * i + 1 + 1 by omega]
    simpa [fl] using this

/-- a row of the document's: clients and boxes; its blocks lie in N -/
structure IsTk (w : World) (N : Nat → Prop) (v : Value) (es : List (Int × Value)) (t : Tk) : Prop where
  row : w.ownsRow 0 92 2 v es.length (fl es)
  len : es.length = t.length
  fst : ∀ i (h : i < es.length) (h' : i < t.length), es[i].1 = t[i].1
  box : ∀ i (h : i < es.length) (h' : i < t.length), w.ownsRow 0 5 1 es[i].2 t[i].2.length (t[i].2.map bv)
  inr : ∀ k, oB v k → N k
  inb : ∀ i (h : i < es.length) k, oB es[i].2 k → N k
theorem IsTk.nil (w : World) (N : Nat → Prop) : IsTk w N (.slice none 0 0) [] [] :=
  ⟨World.ownsRow_nil _ _ _ _, rfl, fun i h => absurd h (by simp), fun i h => absurd h (by simp), fun k hk => by simp [oB, Value.ownBlock] at hk, fun i h => absurd h (by simp)⟩
section
variable {w w' : World} {N M S : Nat → Prop} {v : Value} {es : List (Int × Value)} {t : Tk}
theorem IsTk.frm (h : IsTk w N v es t) (hf : Frm S w w') (hr : ∀ k, oB v k → ¬ S k) (hb : ∀ i (h : i < es.length) k, oB es[i].2 k → ¬ S k) : IsTk w' N v es t :=
  ⟨own_frm h.row hf hr, h.len, h.fst, fun i hi hi' => own_frm (h.box i hi hi') hf (hb i hi), h.inr, h.inb⟩
theorem IsTk.frm' (h : IsTk w N v es t) (hf : Frm noB w w') : IsTk w' N v es t := h.frm hf (fun _ _ h => h) fun _ _ _ _ h => h
theorem IsTk.frmN (h : IsTk w N v es t) (hf : Frm S w w') (hN : ∀ k, N k → ¬ S k) : IsTk w' N v es t := h.frm hf (fun k hk => hN k (h.inr k hk)) fun i hi k hk => hN k (h.inb i hi k hk)
theorem IsTk.mono (h : IsTk w N v es t) (hM : ∀ k, N k → M k) : IsTk w M v es t := ⟨h.row, h.len, h.fst, h.box, fun k hk => hM k (h.inr k hk), fun i hi k hk => hM k (h.inb i hi k hk)⟩
/-- the boxes lie apart from the row -/
theorem IsTk.apart (h : IsTk w N v es t) {i : Nat} (hi : i < es.length) : ∀ k, oB es[i].2 k → ¬ oB v k := fun k hk =>
  own_own_ne (h.box i hi (by have := h.len; omega)) h.row (by decide) hk
/-- one more -/
theorem IsTk.snoc (h : IsTk w N v es t) {c : Int} {l : List UInt8} {u v' : Value} {w1 w2 : World} (f1 : Frm noB w w1) (hu : w1.ownsRow w.heap.size 5 1 u l.length (l.map bv)) (f2 : Frm (oB v) w1 w2)
    (ho : w2.ownsRow 0 92 2 v' (es.length + 1) (fl es ++ [iv c, u])) (hv : ∀ k, oB v' k → oB v k ∨ w1.heap.size ≤ k) (hM : ∀ k, N k → M k) (hM2 : ∀ k, w.heap.size ≤ k → k < w2.heap.size → M k) : IsTk w2 M v' (es ++ [(c, u)]) (t ++ [(c, l)]) := by
  have hl := h.len
  have hs1 := f1.size
  have hs2 := f2.size
  have h1 := h.frm' f1
  have h2 : ∀ i (hi : i < es.length) (hi' : i < t.length), w2.ownsRow 0 5 1 es[i].2 t[i].2.length (t[i].2.map bv) := fun i hi hi' => own_frm (h1.box i hi hi') f2 (h1.apart hi)
  have last : ∀ i (hi : i < (es ++ [(c, u)]).length), ¬ i < es.length → i = es.length := fun i hi e => by simp at hi; omega
  have lu := own_lt hu
  have hlt := own_lt h1.row
  refine ⟨by rw [fl_append]; simpa [fl] using ho, by simp [hl], fun i hi hi' => ?_, fun i hi hi' => ?_, fun k hk => ?_, fun i hi k hk => ?_⟩
  · by_cases e : i < es.length
    · rw [List.getElem_append_left e, List.getElem_append_left (by omega)]; exact h.fst i e (by omega)
    · have := last i hi e
      subst this
      simp [hl]
  · by_cases e : i < es.length
    · have e' : i < t.length := by omega
      simp only [List.getElem_append_left e, List.getElem_append_left e']
      exact h2 i e e'
    · have := last i hi e
      subst this
      have e1 : (es ++ [(c, u)])[es.length] = (c, u) := by simp
      have e2 : (t ++ [(c, l)])[es.length]'(by simp; omega) = (c, l) := by rw [List.getElem_append_right (by omega)]; simp [hl]
      rw [e1, e2]
      exact own_base (own_frm hu f2 fun k hk hk' => by have := (lu k hk).1; have := hlt k hk'; have := (own_lt h.row k hk').2; omega) fun _ _ => Nat.zero_le _
  · have := (own_lt ho k hk).2
    rcases hv k hk with h' | h'
    · exact hM k (h.inr k h')
    · exact hM2 k (by omega) this
  · by_cases e : i < es.length
    · simp only [List.getElem_append_left e] at hk
      exact hM k (h.inb i e k hk)
    · have := last i hi e
      subst this
      have e1 : (es ++ [(c, u)])[es.length] = (c, u) := by simp
      rw [e1] at hk
      have := lu k hk
      exact hM2 k this.1 (by omega)
/-- a place's two cells -/
theorem IsTk.cell (h : IsTk w N v es t) {i : Nat} (hi : i < t.length) : ∃ g c A' c', v = .slice (some ⟨g, 0, none⟩) t.length c ∧ t.length ≤ c ∧ w.cell? ⟨g, i * 2, none⟩ = some (.int .i64 t[i].1) ∧ w.cell? ⟨g, i * 2 + 1, none⟩ = some (.slice A' t[i].2.length c') ∧ Rd w A' (t[i].2.map bv) ∧
    es[i]? = some (t[i].1, .slice A' t[i].2.length c') ∧ oB v g := by
  have hl := h.len
  have hi2 : i < es.length := by omega
  obtain ⟨A', c', hb, _⟩ := own_slice (h.box i hi2 hi)
  have hr := h.box i hi2 hi
  rw [hb] at hr
  have hlen := h.row.1
  rcases h.row.2 with ⟨rfl, h0⟩ | ⟨g, cap, cur, rfl, _, hg, hc, _, hs, ht⟩
  · omega
  · have at_ : ∀ j, j < es.length * 2 → w.cell? ⟨g, j, none⟩ = (fl es)[j]? := fun j hj => by
      rw [cell_of_row w g j cur _ (0, 0) hg, ← ht, List.getElem?_take, if_pos hj]
      simp
    have a1 := at_ (i * 2) (by omega)
    have a2 := at_ (i * 2 + 1) (by omega)
    have f := fl_at es i hi2
    rw [Nat.mul_comm i 2] at a1 a2 ⊢
    rw [f.1] at a1
    rw [f.2] at a2
    refine ⟨g, cap, A', c', by rw [hl], by omega, by rw [a1, h.fst i hi2 hi]; rfl, by rw [a2, hb], Rd.of_own hr, ?_, rfl⟩
    rw [List.getElem?_eq_getElem hi2]
    congr 1
    exact Prod.ext (h.fst i hi2 hi) hb
end

/-- block b is the document's entry in the state t; G: its blocks -/
structure IsR (w : World) (b : Nat) (G : Nat → Prop) (t : RS) (tv rv : Value) (te re : List (Int × Value)) : Prop where
  blk : Blk w b 91 #[.int .i64 t.z1, .int .i64 t.z2, .int .i64 t.clients, .int .i64 t.most, .bool t.op, .bool t.wt, .int .i64 t.kind, .int .u64 t.round, .int .i64 t.til, tv, rv]
  tk : IsTk w G tv te t.tk
  rp : IsTk w G rv re t.rp
  ap : ∀ k, oB tv k → ¬ oB rv k
  gb : G b
  lt : ∀ k, G k → k < w.heap.size
def EntR (w : World) (b : Nat) (t : RS) (G : Nat → Prop) : Prop := ∃ tv rv te re, IsR w b G t tv rv te re
section
variable {w w' : World} {b : Nat} {G S : Nat → Prop} {t : RS} {tv rv : Value} {te re : List (Int × Value)}
theorem IsR.frm (h : IsR w b G t tv rv te re) (hf : Frm S w w') (hS : ∀ k, G k → ¬ S k) : IsR w' b G t tv rv te re :=
  ⟨h.blk.frm hf (hS _ h.gb), h.tk.frmN hf hS, h.rp.frmN hf hS, h.ap, h.gb, fun k hk => Nat.lt_of_lt_of_le (h.lt k hk) hf.size⟩
theorem IsR.frm' (h : IsR w b G t tv rv te re) (hf : Frm noB w w') : IsR w' b G t tv rv te re := h.frm hf fun _ _ h => h
theorem EntR.frm (h : EntR w b t G) (hf : Frm S w w') (hS : ∀ k, G k → ¬ S k) : EntR w' b t G := by
  obtain ⟨tv, rv, te, re, h⟩ := h
  exact ⟨tv, rv, te, re, h.frm hf hS⟩
theorem EntR.frm' (h : EntR w b t G) (hf : Frm noB w w') : EntR w' b t G := h.frm hf fun _ _ h => h
theorem EntR.lt (h : EntR w b t G) : ∀ k, G k → k < w.heap.size := by
  obtain ⟨tv, rv, te, re, h⟩ := h
  exact h.lt
/-- the rows lie apart from the entry's block -/
theorem IsR.tne (h : IsR w b G t tv rv te re) : ¬ oB tv b := h.blk.own_ne h.tk.row (by decide)
theorem IsR.rne (h : IsR w b G t tv rv te re) : ¬ oB rv b := h.blk.own_ne h.rp.row (by decide)
theorem IsR.tbne (h : IsR w b G t tv rv te re) {i : Nat} (hi : i < te.length) : ¬ oB te[i].2 b := h.blk.own_ne (h.tk.box i hi (by have := h.tk.len; omega)) (by decide)
theorem IsR.rbne (h : IsR w b G t tv rv te re) {i : Nat} (hi : i < re.length) : ¬ oB re[i].2 b := h.blk.own_ne (h.rp.box i hi (by have := h.rp.len; omega)) (by decide)

theorem rthere_any (cs : Array Value) (c client : Int) (hb : Blk w b 91 cs) (hc : cs[2]? = some (.int .i64 c)) :
    Calls Try.prog 48 #[.pointer (some ⟨b, 0, none⟩), .int .i64 client] w fun e w' => e = .returned (.bool (decide (0 ≤ client ∧ client < c))) ∧ w = w' := by
  have c1 := (hb.cell 2).trans hc
  by_cases h1 : client < 0
  · rw [decide_eq_false (p := 0 ≤ client ∧ client < c) (by omega)]
    go_enter Try.func48, Try.ntmps48
    go_wp2
    go_ret
    exact ⟨rfl, rfl⟩
  · have h2 : 0 ≤ client := by omega
    by_cases h3 : client < c
    · rw [decide_eq_true (p := 0 ≤ client ∧ client < c) ⟨h2, h3⟩]
      go_enter Try.func48, Try.ntmps48
      go_wp2
      go_ret
      exact ⟨rfl, rfl⟩
    · rw [decide_eq_false (p := 0 ≤ client ∧ client < c) (by omega)]
      go_enter Try.func48, Try.ntmps48
      go_wp2
      go_ret
      exact ⟨rfl, rfl⟩
end
end Go.Proofs.Ytjnoddbhfcpniaa
