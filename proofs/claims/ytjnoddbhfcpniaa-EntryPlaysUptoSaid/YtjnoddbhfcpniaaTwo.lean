/-
  EntryPlays: two pairs in memory, side by side.
-/
import Derived.Test.YtjnoddbhfcpniaaMade
import Derived.Test.YtjnoddbhfcpniaaOpenSt
namespace Go.Proofs.Ytjnoddbhfcpniaa
open Go.RowKit
open Go.BigFrame
set_option linter.unusedVariables false
set_option linter.unusedSimpArgs false

/-- one pair (or none, where it was refused); p: the document's entry -/
def Sit (w : World) (bb : Nat) (P : Nat → Prop) (p : Option Addr) : Prop :=
  (p = none ∧ ∃ ab, Blk w bb 65 #[.pointer none, .pointer none, .pointer (some ⟨ab, 0, none⟩), .int .i64 0] ∧ Blk w ab 70 #[.int .i64 0] ∧ P bb ∧ P ab ∧ ∀ k, P k → k < w.heap.size) ∨
  (∃ I F G s t m, p = some ⟨I.rb, 0, none⟩ ∧ I.bb = bb ∧ PrM w I F G P s t m m ∧ Rel s t ∧ RB t 1048576)
section
variable {w w' w0 : World} {bb b1 b2 : Nat} {P S : Nat → Prop} {p p1 p2 : Option Addr}
theorem Sit.frm (h : Sit w bb P p) (hf : Frm S w w') (hS : ∀ k, P k → ¬ S k) : Sit w' bb P p := by
  rcases h with ⟨e, ab, h1, h2, h3, h4, h5⟩ | ⟨I, F, G, s, t, m, e, eb, h1, h2, h3⟩
  · exact .inl ⟨e, ab, h1.frm hf (hS _ h3), h2.frm hf (hS _ h4), h3, h4, fun k hk => Nat.lt_of_lt_of_le (h5 k hk) hf.size⟩
  · exact .inr ⟨I, F, G, s, t, m, e, eb, h1.frm hf hS, h2, h3⟩
theorem Sit.lt (h : Sit w bb P p) : ∀ k, P k → k < w.heap.size := by
  rcases h with ⟨e, ab, h1, h2, h3, h4, h5⟩ | ⟨I, F, G, s, t, m, e, eb, h1, h2, h3⟩
  · exact h5
  · exact h1.pl
theorem Sit.cell (h : Sit w bb P p) : w.cell? ⟨bb, 1, none⟩ = some (.pointer p) := by
  rcases h with ⟨e, ab, h1, h2, h3, h4, h5⟩ | ⟨I, F, G, s, t, m, e, eb, h1, h2, h3⟩
  · subst e; exact h1.cell 1
  · subst e; subst eb; exact h1.both.cell 1
theorem Sit.fin (h : Sit w bb P p) : ∃ ab, ∃ m : Int, w.cell? ⟨bb, 2, none⟩ = some (.pointer (some ⟨ab, 0, none⟩)) ∧ w.cell? ⟨ab, 0, none⟩ = some (.int .i64 m) ∧ w.cell? ⟨bb, 3, none⟩ = some (.int .i64 m) := by
  rcases h with ⟨e, ab, h1, h2, h3, h4, h5⟩ | ⟨I, F, G, s, t, m, e, eb, h1, h2, h3⟩
  · exact ⟨ab, 0, h1.cell 2, h2.cell 0, h1.cell 3⟩
  · subst eb; exact ⟨I.ab, m, h1.both.cell 2, h1.asked.cell 0, h1.both.cell 3⟩
theorem Sit.of_made {z1 z2 c m : Int} (h : Made w w' bb z1 z2 c m) : ∃ P p, Sit w' bb P p ∧ ∀ k, P k → w.heap.size ≤ k := by
  rcases h with ⟨_, ab, h1, h2, h3, h4⟩ | ⟨hok, I, F, G, P, e, h1, h2⟩
  · refine ⟨fun k => k = bb ∨ k = ab, none, .inl ⟨rfl, ab, h1, h2, .inl rfl, .inr rfl, fun k hk => ?_⟩, fun k hk => ?_⟩
    · rcases hk with rfl | rfl
      · exact h1.lt
      · exact h2.lt
    · rcases hk with rfl | rfl <;> assumption
  · exact ⟨P, _, .inr ⟨I, F, G, _, _, 0, rfl, e, h1, Rel.start _ _ _ _, RB.start _ _ _ _ _ hok⟩, h2⟩
/-- both pairs, apart, and what was there as it was; N: blocks that neither has -/
structure TwoI (w0 w : World) (b1 b2 : Nat) (p1 p2 : Option Addr) (N : Nat → Prop) : Prop where
  frm : Frm (fun k => w0.heap.size ≤ k) w0 w
  ex : ∃ P1 P2, Sit w b1 P1 p1 ∧ Sit w b2 P2 p2 ∧ (∀ k, P1 k → ¬ P2 k) ∧ (∀ k, P1 k → w0.heap.size ≤ k) ∧ (∀ k, P2 k → w0.heap.size ≤ k) ∧ (∀ k, P1 k → ¬ N k) ∧ ∀ k, P2 k → ¬ N k
  nl : ∀ k, N k → k < w.heap.size
theorem TwoI.swap {N : Nat → Prop} (h : TwoI w0 w b1 b2 p1 p2 N) : TwoI w0 w b2 b1 p2 p1 N := by
  obtain ⟨hf, ⟨P1, P2, h1, h2, hd, g1, g2, n1, n2⟩, hl⟩ := h
  exact ⟨hf, ⟨P2, P1, h2, h1, fun k hk hk' => hd k hk' hk, g2, g1, n2, n1⟩, hl⟩
theorem TwoI.start {w1 w2 : World} {z1 z2 c m y1 y2 d n : Int} (h1 : Made w0 w1 b1 z1 z2 c m) (h2 : Made w1 w2 b2 y1 y2 d n) (f1 : Frm noB w0 w1) (f2 : Frm noB w1 w2) : ∃ p1 p2, TwoI w0 w2 b1 b2 p1 p2 noB := by
  obtain ⟨P1, p1, s1, g1⟩ := Sit.of_made h1
  obtain ⟨P2, p2, s2, g2⟩ := Sit.of_made h2
  have := f1.size
  exact ⟨p1, p2, (f1.trans' f2).any, ⟨P1, P2, s1.frm f2 fun _ _ h => h, s2, fun k hk hk' => by have := s1.lt k hk; have := g2 k hk'; omega, g1, fun k hk => by have := g2 k hk; omega, fun _ _ h => h, fun _ _ h => h⟩, fun _ h => h.elim⟩
theorem TwoI.frm_ {N : Nat → Prop} (h : TwoI w0 w b1 b2 p1 p2 N) (hf : Frm S w w') (hS : ∀ k, S k → w.heap.size ≤ k) : TwoI w0 w' b1 b2 p1 p2 N := by
  have hs := h.frm.size
  obtain ⟨f, ⟨P1, P2, h1, h2, hd, g1, g2, n1, n2⟩, hl⟩ := h
  exact ⟨f.trans' (hf.mono fun k _ hk => Nat.le_trans hs (hS k hk)), ⟨P1, P2, h1.frm hf fun k hk hk' => by have := h1.lt k hk; have := hS k hk'; omega, h2.frm hf fun k hk hk' => by have := h2.lt k hk; have := hS k hk'; omega, hd, g1, g2, n1, n2⟩, fun k hk => Nat.lt_of_lt_of_le (hl k hk) hf.size⟩
theorem TwoI.frm' {N : Nat → Prop} (h : TwoI w0 w b1 b2 p1 p2 N) (hf : Frm noB w w') : TwoI w0 w' b1 b2 p1 p2 N := h.frm_ hf fun _ h => h.elim
theorem TwoI.no {N : Nat → Prop} (h : TwoI w0 w b1 b2 p1 p2 N) : TwoI w0 w b1 b2 p1 p2 noB := by
  obtain ⟨f, ⟨P1, P2, h1, h2, hd, g1, g2, n1, n2⟩, hl⟩ := h
  exact ⟨f, ⟨P1, P2, h1, h2, hd, g1, g2, fun _ _ h => h, fun _ _ h => h⟩, fun _ h => h.elim⟩
/-- a block that is new is of neither -/
theorem TwoI.new_ {N : Nat → Prop} (h : TwoI w0 w b1 b2 p1 p2 N) (o : Obj) : TwoI w0 (w.alloc o) b1 b2 p1 p2 (isB w.heap.size) := by
  have hf : Frm noB w (w.alloc o) := (Frm.refl _ _).alloc o
  have hl' : w.heap.size < (w.alloc o).heap.size := by simp
  obtain ⟨f, ⟨P1, P2, h1, h2, hd, g1, g2, n1, n2⟩, hl⟩ := h
  exact ⟨f.trans' hf.any, ⟨P1, P2, h1.frm hf fun _ _ h => h, h2.frm hf fun _ _ h => h, hd, g1, g2, fun k hk e => by have := h1.lt k hk; have : k = w.heap.size := e; omega, fun k hk e => by have := h2.lt k hk; have : k = w.heap.size := e; omega⟩, fun k e => by have : k = w.heap.size := e; omega⟩
theorem TwoI.c1 {N : Nat → Prop} (h : TwoI w0 w b1 b2 p1 p2 N) : w.cell? ⟨b1, 1, none⟩ = some (.pointer p1) := by
  obtain ⟨f, ⟨P1, P2, h1, _⟩, _⟩ := h
  exact h1.cell
theorem TwoI.c2 {N : Nat → Prop} (h : TwoI w0 w b1 b2 p1 p2 N) : w.cell? ⟨b2, 1, none⟩ = some (.pointer p2) := h.swap.c1
theorem TwoI.fin {N : Nat → Prop} (h : TwoI w0 w b1 b2 p1 p2 N) : ∃ a1 a2, ∃ m1 m2 : Int, w.cell? ⟨b1, 2, none⟩ = some (.pointer (some ⟨a1, 0, none⟩)) ∧ w.cell? ⟨a1, 0, none⟩ = some (.int .i64 m1) ∧ w.cell? ⟨b1, 3, none⟩ = some (.int .i64 m1) ∧
    w.cell? ⟨b2, 2, none⟩ = some (.pointer (some ⟨a2, 0, none⟩)) ∧ w.cell? ⟨a2, 0, none⟩ = some (.int .i64 m2) ∧ w.cell? ⟨b2, 3, none⟩ = some (.int .i64 m2) := by
  obtain ⟨f, ⟨P1, P2, h1, h2, _⟩, _⟩ := h
  obtain ⟨a1, m1, x1, x2, x3⟩ := h1.fin
  obtain ⟨a2, m2, y1, y2, y3⟩ := h2.fin
  exact ⟨a1, a2, m1, m2, x1, x2, x3, y1, y2, y3⟩
/-- a cell that stood there -/
theorem TwoI.old {N : Nat → Prop} {a : Addr} {v : Value} (h : TwoI w0 w b1 b2 p1 p2 N) (hc : w0.cell? a = some v) (ha : a.block < w0.heap.size) : w.cell? a = some v := h.frm.cell_some hc (Nat.not_le.2 ha)
theorem TwoI.step1 {N : Nat → Prop} {r : Addr} (h : TwoI w0 w b1 b2 (some r) p2 N) (dv kind round at_ client : Int) (A Ar : Option Addr) (data : List UInt8) (rows : List (List UInt8)) (c cr : Nat) (hD : Rd w0 A (data.map bv)) (hR : RdRows w0 Ar rows (fun k => k < w0.heap.size)) (b1' : data.length ≤ 1048576) (b2' : rows.length ≤ 1048576) (b3' : ∀ x ∈ rows, x.length ≤ 1048576) :
    Calls Try.prog 28 #[.pointer (some ⟨b1, 0, none⟩), .agg #[.int .i64 dv, .int .i64 kind, .int .u64 round, .int .i64 at_, .int .i64 client, .slice A data.length c, .slice Ar rows.length cr]] w fun e w' => e = .returned (.bool true) ∧ TwoI w0 w' b1 b2 (some r) p2 N ∧ Frm (fun k => ¬ N k) w w' := by
  have hs := h.frm.size
  obtain ⟨f, ⟨P1, P2, h1, h2, hd, g1, g2, n1, n2⟩, hl⟩ := h
  rcases h1 with ⟨e, _⟩ | ⟨I, F, G, s, t, m, e, eb, h1, hr, hb⟩
  · exact absurd e (by simp)
  subst eb
  have hA : data ≠ [] → ∀ k, aB A k → k < w0.heap.size := fun hne k hk => hD.lt (by
    rcases data with _ | ⟨x, r⟩
    · exact absurd rfl hne
    · simp) k hk
  refine (step_any h1 hr hb (Nat.le_refl _) dv kind round at_ client A Ar data rows c cr (hD.frmN f fun hne k hk h => ?_) (fun hne k hk h => ?_) b1' ((hR.frm f fun k hk h => ?_).mono fun k hk h => ?_) b3' b2').mono fun e' w' ⟨he, hst⟩ => ⟨he, ?_⟩
  · have := hA (by intro e; apply hne; rw [e]; rfl) k hk; have : w0.heap.size ≤ k := h; omega
  · have := hA hne k hk; have := g1 k h; omega
  · have : w0.heap.size ≤ k := h; have : k < w0.heap.size := hk; omega
  · have := g1 k h; have : k < w0.heap.size := hk; omega
  · obtain ⟨F', G', s', t', m', q1, q2, q3, q4⟩ := hst
    refine ⟨⟨f.trans' (q4.mono fun k _ hk => g1 k hk), ⟨More P1 w w', P2, .inr ⟨I, F', G', s', t', m', e, rfl, q1, q2, q3⟩, h2.frm q4 fun k hk hk' => hd k hk' hk, fun k hk hk' => ?_, fun k hk => ?_, g2, fun k hk hn => ?_, n2⟩, fun k hk => Nat.lt_of_lt_of_le (hl k hk) q4.size⟩, q4.mono fun k _ hk => n1 k hk⟩
    · rcases hk with hk | hk
      · exact hd k hk hk'
      · have := h2.lt k hk'; omega
    · rcases hk with hk | hk
      · exact g1 k hk
      · omega
    · rcases hk with hk | hk
      · exact n1 k hk hn
      · have := hl k hn; omega
theorem TwoI.step2 {N : Nat → Prop} {r : Addr} (h : TwoI w0 w b1 b2 p1 (some r) N) (dv kind round at_ client : Int) (A Ar : Option Addr) (data : List UInt8) (rows : List (List UInt8)) (c cr : Nat) (hD : Rd w0 A (data.map bv)) (hR : RdRows w0 Ar rows (fun k => k < w0.heap.size)) (b1' : data.length ≤ 1048576) (b2' : rows.length ≤ 1048576) (b3' : ∀ x ∈ rows, x.length ≤ 1048576) :
    Calls Try.prog 28 #[.pointer (some ⟨b2, 0, none⟩), .agg #[.int .i64 dv, .int .i64 kind, .int .u64 round, .int .i64 at_, .int .i64 client, .slice A data.length c, .slice Ar rows.length cr]] w fun e w' => e = .returned (.bool true) ∧ TwoI w0 w' b1 b2 p1 (some r) N ∧ Frm (fun k => ¬ N k) w w' :=
  (h.swap.step1 dv kind round at_ client A Ar data rows c cr hD hR b1' b2' b3').mono fun e w' ⟨h1, h2, h3⟩ => ⟨h1, h2.swap, h3⟩
/-- Collect of a client -/
theorem TwoI.col1 {N : Nat → Prop} {r : Addr} (h : TwoI w0 w b1 b2 (some r) p2 N) (client : Int) : Calls Try.prog 28 #[.pointer (some ⟨b1, 0, none⟩), .agg #[.int .i64 6, .int .i64 0, .int .u64 0, .int .i64 0, .int .i64 client, .slice none 0 0, .slice none 0 0]] w fun e w' => e = .returned (.bool true) ∧ TwoI w0 w' b1 b2 (some r) p2 N ∧ Frm (fun k => ¬ N k) w w' :=
  h.step1 6 0 0 0 client none none [] [] 0 0 (Rd.nil _ _) ⟨[], Rd.nil _ _, rfl, fun i h => absurd h (by simp), fun h => absurd rfl h⟩ (by simp) (by simp) (fun x hx => absurd hx (by simp))
theorem TwoI.col2 {N : Nat → Prop} {r : Addr} (h : TwoI w0 w b1 b2 p1 (some r) N) (client : Int) : Calls Try.prog 28 #[.pointer (some ⟨b2, 0, none⟩), .agg #[.int .i64 6, .int .i64 0, .int .u64 0, .int .i64 0, .int .i64 client, .slice none 0 0, .slice none 0 0]] w fun e w' => e = .returned (.bool true) ∧ TwoI w0 w' b1 b2 p1 (some r) N ∧ Frm (fun k => ¬ N k) w w' :=
  (h.swap.col1 client).mono fun e w' ⟨h1, h2, h3⟩ => ⟨h1, h2.swap, h3⟩
theorem RdSt.frm' {A : Option Addr} {l : List PStep} {n : Nat} (h : RdSt w A l n) (hf : Frm noB w w') : RdSt w' A l n := by
  intro i hi
  obtain ⟨b, off, A', c, Ar, cr, hA, h0, h1, h2, h3, h4, h5, h6, hr, hrr, b1, b2, b3⟩ := h i hi
  have no : ∀ k, ¬ noB k := fun _ h => h
  exact ⟨b, off, A', c, Ar, cr, hA, hf.cell_some h0 (no _), hf.cell_some h1 (no _), hf.cell_some h2 (no _), hf.cell_some h3 (no _), hf.cell_some h4 (no _), hf.cell_some h5 (no _), hf.cell_some h6 (no _), hr.frm' hf, (hrr.frm' hf).mono fun k hk => Nat.lt_of_lt_of_le hk hf.size, b1, b2, b3⟩
/-- the row of a step, where it lies -/
structure RowAt (w : World) (b o : Nat) (q : PStep) (A' Ar : Option Addr) (c cr : Nat) : Prop where
  c0 : w.cell? ⟨b, o, none⟩ = some (.int .i64 q.dv)
  c1 : w.cell? ⟨b, o + 1, none⟩ = some (.int .i64 q.kind)
  c2 : w.cell? ⟨b, o + 2, none⟩ = some (.int .u64 q.round)
  c3 : w.cell? ⟨b, o + 3, none⟩ = some (.int .i64 q.at_)
  c4 : w.cell? ⟨b, o + 4, none⟩ = some (.int .i64 q.client)
  c5 : w.cell? ⟨b, o + 5, none⟩ = some (.slice A' q.data.length c)
  c6 : w.cell? ⟨b, o + 6, none⟩ = some (.slice Ar q.rows.length cr)
theorem RowAt.frm {b o : Nat} {q : PStep} {A' Ar : Option Addr} {c cr : Nat} (h : RowAt w b o q A' Ar c cr) (hf : Frm S w w') (hS : ¬ S b) : RowAt w' b o q A' Ar c cr :=
  ⟨hf.cell_some h.c0 hS, hf.cell_some h.c1 hS, hf.cell_some h.c2 hS, hf.cell_some h.c3 hS, hf.cell_some h.c4 hS, hf.cell_some h.c5 hS, hf.cell_some h.c6 hS⟩
theorem RdSt.at_ {A : Option Addr} {l : List PStep} {n : Nat} (h : RdSt w A l n) {i : Nat} (hi : i < l.length) : ∃ b off A' c Ar cr, A = some ⟨b, off, none⟩ ∧ b < w.heap.size ∧ RowAt w b (off + i * 7) l[i] A' Ar c cr ∧ Rd w A' (l[i].data.map bv) ∧ RdRows w Ar l[i].rows (fun k => k < w.heap.size) ∧ l[i].data.length ≤ n ∧ l[i].rows.length ≤ n ∧ ∀ x ∈ l[i].rows, x.length ≤ n := by
  obtain ⟨b, off, A', c, Ar, cr, hA, h0, h1, h2, h3, h4, h5, h6, hr, hrr, b1, b2, b3⟩ := h i hi
  exact ⟨b, off, A', c, Ar, cr, hA, World.block_lt_of_cell? w _ h0, ⟨h0, h1, h2, h3, h4, h5, h6⟩, hr, hrr, b1, b2, b3⟩
end
end Go.Proofs.Ytjnoddbhfcpniaa
