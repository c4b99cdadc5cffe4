/-
  EntryPlays: the document's Close.
-/
import Derived.Test.YtjnoddbhfcpniaaRefSub
import Derived.Test.YtjnoddbhfcpniaaPush
import Derived.Deep.CutRange
namespace Go.Proofs.Ytjnoddbhfcpniaa
open Go.RowKit
open Go.BigFrame
set_option linter.unusedVariables false
set_option linter.unusedSimpArgs false

theorem results_row_tmp {P : Program} {fn : Func} {p u : Tmp} {ty : TypeId} (h : fn.results = #[.cell p ty, .tmp u]) (tmps : Array Value) (w : World) (g : Nat) (t : TypeId) (cs : Array Value) (fr : Nat × Nat) (d : TypeDesc)
    (hp : tmps.getD p undef = .pointer (some ⟨g, 0, none⟩)) (hg : w.heap[g]? = some (.cells cs t fr))
    (hu : P.underlying ty = some d) (hd : (match d with | .struct _ | .array _ _ => true | _ => false) = true) (hi : (P.info? ty).map (·.size) = some cs.size) :
    (results fn tmps).run P w = .ok (.tuple #[.agg cs, tmps.getD u undef]) w := by
  have hp' : tmps[p]?.getD undef = .pointer (some ⟨g, 0, none⟩) := by simpa using hp
  simp [results, h, hp', asAddr, Sem.run_bind, Result.andThen, run_loadVar_row w g t ty cs fr d hg hu hd hi]

section
variable {P : Program} {ops : Array Oper} {Q : Exit → Act → World → Prop} {md : Region.Mode} {S : World → Prop}
theorem takeC {i : Nat} {d : Option Tmp} {op : Op} {ty : TypeId} {pos : String} {af : Array Edge} {gd : Option (Nat × Bool)} (v : Value) {fuel : Nat} {listed : Array Bool} {a : Act} {w : World} (hi : ops[i]? = some ⟨d, op, ty, pos, af, gd⟩)
    (hs : Region.noSelect ops = true) (hf : Region.free md ops listed i = true) (hr : (Region.ready md ops listed).contains i = true)
    (hQ : ∀ c a w, Q (.panic c) (a.put d v) w → Q (.panic c) a w) (hy : YieldsIf P ops S ⟨d, op, ty, pos, af, gd⟩ v a) (hS : S w)
    (h : wpAnyH P md ops Q S fuel (listed.setIfInBounds i true) (a.put d v) w) : wpAnyH P md ops Q S (fuel + 1) listed a w :=
  wpAnyH_take hi hs hf hr hQ hy hS h
theorem consC {fuel : Nat} {listed : Array Bool} {a : Act} {w : World} {i : Nat} {d : Option Tmp} {op : Op} {ty : TypeId} {pos : String} {af : Array Edge} {gd : Option (Nat × Bool)} (hi : ops[i]? = some ⟨d, op, ty, pos, af, gd⟩)
    (hr : Region.ready md ops listed = [i])
    (h : ∀ K' : Act → World → Prop, Shut (∀ a w, S w → (S w → wpAnyH P md ops Q S fuel (listed.setIfInBounds i true) a w) → K' a w) → if Region.wanted ⟨d, op, ty, pos, af, gd⟩ (yielded ops a.tmps) = true then Oper.wp P ⟨d, op, ty, pos, af, gd⟩ a w K' Q else K' (a.put d undef) w) :
    wpAnyH P md ops Q S (fuel + 1) listed a w := wpAnyH_ready hr (by simp) (AllReadyH.cons hi h AllReadyH.nil)
end

section
variable {w : World} {b : Nat} {G : Nat → Prop} {t : RS}
theorem IsR.closed {tv rv : Value} {te re : List (Int × Value)} {w1 : World} (h : IsR w b G t tv rv te re) (hf : Frm (isB b) w w1) (hb : Blk w1 b 91 #[.int .i64 t.z1, .int .i64 t.z2, .int .i64 t.clients, .int .i64 t.most, .bool false, .bool true, .int .i64 t.kind, .int .u64 t.round, .int .i64 t.til, tv, rv]) : IsR w1 b G (rclosed t) tv rv te re :=
  ⟨hb, h.tk.frm hf (fun k hk e => h.tne ((show k = b from e) ▸ hk)) (fun i hi k hk e => h.tbne hi ((show k = b from e) ▸ hk)), h.rp.frm hf (fun k hk e => h.rne ((show k = b from e) ▸ hk)) (fun i hi k hk e => h.rbne hi ((show k = b from e) ▸ hk)), h.ap, h.gb, fun k hk => Nat.lt_of_lt_of_le (h.lt k hk) hf.size⟩
theorem Rd.laid1 (w : World) (e : TypeId) (y : Value) : Rd (w.alloc (.cells #[y] e)) (some ⟨w.heap.size, 0, none⟩) [y] := by
  intro i hi
  have : i = 0 := by simp at hi; omega
  subst this
  exact ⟨_, 0, rfl, by rw [Nat.zero_add, cell_of_row _ _ 0 #[y] e (0, 0) (heap_alloc_new w _)]; rfl⟩
/-- when k1 clients, k2 boxes are handed on -/
structure RCl (w wr : World) (b g2 g4 : Nat) (G : Nat → Prop) (t : RS) (tv rv : Value) (te re : List (Int × Value)) (k1 k2 : Nat) (wv xv : Value) (vs : List Value) : Prop where
  fr : Frm (isB b) w wr
  ent : IsR wr b G (rclosed t) tv rv te re
  z2 : Blk wr g2 39 #[.int .i64 0, .int .u64 0, .slice none 0 0, .slice none 0 0]
  z4 : Blk wr g4 39 #[.int .i64 t.kind, .int .u64 t.round, wv, xv]
  who : wr.ownsRow w.heap.size 3 1 wv k1 (((t.tk.take k1).map (·.1)).map iv)
  box : OwnedRows wr w.heap.size xv vs ((t.tk.take k2).map (·.2))
  l2 : w.heap.size ≤ g2
  l4 : w.heap.size ≤ g4
  ne : g2 ≠ g4
  lg : ∀ k, G k → k < w.heap.size
section
variable {wr w5 w6 : World} {g2 g4 : Nat} {tv rv : Value} {te re : List (Int × Value)} {k j : Nat} {wv xv wv' xv' u : Value} {vs : List Value}
theorem RCl.who_ (h : RCl w wr b g2 g4 G t tv rv te re k j wv xv vs) (hk : k < t.tk.length) (f5 : Frm (oB wv) wr w5) (ho : w5.ownsRow w.heap.size 3 1 wv' (k + 1) (((t.tk.take k).map (·.1)).map iv ++ [iv t.tk[k].1]))
    (f6 : Frm (isB g4) w5 w6) (b6 : Blk w6 g4 39 #[.int .i64 t.kind, .int .u64 t.round, wv', xv]) : RCl w w6 b g2 g4 G t tv rv te re (k + 1) j wv' xv vs := by
  have lw := own_lt h.who
  have b5 := h.z4.frm f5 (h.z4.own_ne h.who (by decide))
  have z5 := h.z2.frm f5 (h.z2.own_ne h.who (by decide))
  have e5 := h.ent.frm f5 fun q hq hn => by have := h.lg q hq; have := (lw q hn).1; omega
  have x5 := h.box.frm f5 (fun q hq => own_own_ne h.box.row h.who (by decide) hq) fun i hi q hq => own_own_ne (h.box.each i hi (by have := h.box.len; omega)) h.who (by decide) hq
  have ng : ∀ {v : Value} {e n : Nat} {ys : List Value}, w5.ownsRow w.heap.size e 1 v n ys → e ≠ 39 → ∀ q, oB v q → ¬ isB g4 q := fun ho he q hq e => b5.own_ne (own_base ho fun _ _ => Nat.zero_le _) he ((show q = g4 from e) ▸ hq)
  refine ⟨(h.fr.trans f5 fun q hq hn => by have := (lw q hn).1; omega).trans f6 fun q hq e => by have := h.l4; have : q = g4 := e; omega, e5.frm f6 fun q hq e => by have := h.lg q hq; have := h.l4; have : q = g4 := e; omega, z5.frm f6 h.ne, b6, ?_, x5.frm f6 (ng x5.row (by decide)) fun i hi => ng (x5.each i hi (by have := x5.len; omega)) (by decide), h.l2, h.l4, h.ne, h.lg⟩
  have := own_frm ho f6 (ng ho (by decide))
  rw [List.take_succ_eq_append_getElem hk, List.map_append, List.map_append]
  exact this
theorem RCl.box_ (h : RCl w wr b g2 g4 G t tv rv te re j k wv xv vs) (hk : k < t.tk.length) {w4 : World} (f4 : Frm noB wr w4) (hu : w4.ownsRow wr.heap.size 5 1 u t.tk[k].2.length (t.tk[k].2.map bv)) (f5 : Frm (oB xv) w4 w5)
    (ho : w5.ownsRow w.heap.size 35 1 xv' (vs.length + 1) (vs ++ [u])) (f6 : Frm (isB g4) w5 w6) (b6 : Blk w6 g4 39 #[.int .i64 t.kind, .int .u64 t.round, wv, xv']) : RCl w w6 b g2 g4 G t tv rv te re j (k + 1) wv xv' (vs ++ [u]) := by
  have lx := own_lt h.box.row
  have z4' := h.z4.frm' f4
  have r4 := own_frm' h.box.row f4
  have b5 := z4'.frm f5 (z4'.own_ne r4 (by decide))
  have z2' := h.z2.frm' f4
  have z5 := z2'.frm f5 (z2'.own_ne r4 (by decide))
  have e5 := (h.ent.frm' f4).frm f5 fun q hq hn => by have := h.lg q hq; have := (lx q hn).1; omega
  have x5 := OwnedRows.push h.box h.fr.size f4 hu ho f5
  have o4 := own_frm' h.who f4
  have o5 := own_frm o4 f5 fun q hq => own_own_ne o4 r4 (by decide) hq
  have ng : ∀ {v : Value} {e n : Nat} {ys : List Value}, w5.ownsRow w.heap.size e 1 v n ys → e ≠ 39 → ∀ q, oB v q → ¬ isB g4 q := fun ho he q hq e => b5.own_ne (own_base ho fun _ _ => Nat.zero_le _) he ((show q = g4 from e) ▸ hq)
  refine ⟨((h.fr.trans' f4.any).trans f5 fun q hq hn => by have := (lx q hn).1; omega).trans f6 fun q hq e => by have := h.l4; have : q = g4 := e; omega, e5.frm f6 fun q hq e => by have := h.lg q hq; have := h.l4; have : q = g4 := e; omega, z5.frm f6 h.ne, b6, own_frm o5 f6 (ng o5 (by decide)), ?_, h.l2, h.l4, h.ne, h.lg⟩
  have := x5.frm f6 (ng x5.row (by decide)) fun i hi => ng (x5.each i hi (by have := x5.len; omega)) (by decide)
  rw [List.take_succ_eq_append_getElem hk, List.map_append]
  exact this
end
/-- what Close hands on -/
def RClosed (w : World) (b : Nat) (t : RS) (G : Nat → Prop) (e : Ending) (w' : World) : Prop :=
  (t.op = false ∧ e = .returned (.tuple #[.agg #[.int .i64 0, .int .u64 0, .slice none 0 0, .slice none 0 0], .int .i64 251]) ∧ EntR w' b t G ∧ Frm noB w w') ∨
  (t.op = true ∧ ∃ Aw cw Ax cx, e = .returned (.tuple #[.agg #[.int .i64 t.kind, .int .u64 t.round, .slice Aw t.tk.length cw, .slice Ax t.tk.length cx], .int .i64 0]) ∧ EntR w' b (rclosed t) G ∧ Rd w' Aw ((t.tk.map (·.1)).map iv) ∧ (∀ k, aB Aw k → w.heap.size ≤ k) ∧ RdRows w' Ax (t.tk.map (·.2)) (fun k => w.heap.size ≤ k) ∧ Frm (isB b) w w')
set_option maxRecDepth 100000 in
set_option maxHeartbeats 400000 in
theorem rclose_c (h : EntR w b t G) {B : Nat} (hB : RB t B) (hBB : B ≤ 100000000) : Calls Try.prog 39 #[.pointer (some ⟨b, 0, none⟩)] w (RClosed w b t G) := by
  have HE := Lib.hid h
  obtain ⟨tv, rv, te, re, h⟩ := h
  have hf0 : Frm noB w (w.alloc (.cells #[.int .i64 0, .int .u64 0, .slice none 0 0, .slice none 0 0] 39)) := (Frm.refl _ _).alloc _
  have hZ : Blk (w.alloc (.cells #[.int .i64 0, .int .u64 0, .slice none 0 0, .slice none 0 0] 39)) w.heap.size 39 #[.int .i64 0, .int .u64 0, .slice none 0 0, .slice none 0 0] := Blk.new _ _ _
  have F0 := Lib.hid hf0
  have Z0 := Lib.hid hZ
  have H0 := Lib.hid (h.frm' hf0)
  have HB := Lib.hid hB
  have HL := Lib.hid h.lt
  clear h hf0 hZ hB
  by_cases h1 : t.op = true
  · go_enter Try.func39, Try.ntmps39
    go_upto_region 1 with fail
    generalize w.alloc (.cells #[.int .i64 0, .int .u64 0, .slice none 0 0, .slice none 0 0] 39) = w1 at *
    have hbz : b ≠ w.heap.size := fun e => by have := HL.out b H0.out.gb; omega
    have c4 := H0.out.blk.cell 4
    have c5 := H0.out.blk.cell 5
    have z4 := H0.out.blk.frozen 4
    have z5 := H0.out.blk.frozen 5
    simp [h1] at c4 c5
    have hwt : t.wt = false := by
      have := HB.out.ex
      simpa [h1] using this
    rw [hwt] at c5
    have B2 := (H0.out.blk.set_ 4 (.bool false)).set_ 5 (.bool true)
    simp only [List.setIfInBounds_toArray, List.set_cons_succ, List.set_cons_zero] at B2
    have F2 : Frm (isB b) w1 ((w1.setCell ⟨b, 4, none⟩ (.bool false)).setCell ⟨b, 5, none⟩ (.bool true)) := ((Frm.refl (isB b) w1).setCell (a := ⟨b, 4, none⟩) (.inl (show isB b b from rfl)) _).setCell (a := ⟨b, 5, none⟩) (.inl (show isB b b from rfl)) _
    have HB2 := Lib.hid B2
    have HF2 := Lib.hid F2
    clear B2 F2
    go_upto_region 5 with fail
    have E2 : Hid (IsR ((w1.setCell ⟨b, 4, none⟩ (.bool false)).setCell ⟨b, 5, none⟩ (.bool true)) b G (rclosed t) tv rv te re) := Lib.hid (H0.out.closed HF2.out HB2.out)
    have Z2 := Lib.hid ((Z0.out.far (p := ⟨b, 4, none⟩) (Ne.symm hbz) (.bool false)).far (p := ⟨b, 5, none⟩) (Ne.symm hbz) (.bool true))
    have G2 := Lib.hid ((F0.out.any (S := isB b)).trans' HF2.out)
    have hsz := F0.out.size
    have hsz2 := HF2.out.size
    have lt2 := Z2.out.lt
    clear c4 c5 z4 z5 HB2 HF2 H0 Z0 F0
    generalize (w1.setCell ⟨b, 4, none⟩ (.bool false)).setCell ⟨b, 5, none⟩ (.bool true) = w2 at *
    have c6 := E2.out.blk.cell 6
    have c7 := E2.out.blk.cell 7
    simp at c6 c7
    have s0 : w2.drew.cell? ⟨b, 6, none⟩ = some (.int .i64 t.kind) ∧ w2.drew.cell? ⟨b, 7, none⟩ = some (.int .u64 t.round) := ⟨c6, c7⟩
    have G3 := Lib.hid (G2.out.trans' (Frm.refl (isB b) w2).drew)
    have E3 := Lib.hid (E2.out.frm' (Frm.refl noB w2).drew)
    have Z3 := Lib.hid Z2.out.drew
    have lt3 : w.heap.size < w2.drew.heap.size := lt2
    clear c6 c7 hsz hsz2 E2 Z2 G2 lt2
    refine wp_region_held_drew (S := fun W => W.cell? ⟨b, 6, none⟩ = some (.int .i64 t.kind) ∧ W.cell? ⟨b, 7, none⟩ = some (.int .u64 t.round)) (by kernel_rfl) s0 (fun hHeld => ?_)
    generalize w2.drew = w3 at *
    refine takeC (i := 0) (.pointer (some ⟨b, 0, none⟩)) rfl (by kernel_rfl) (by kernel_rfl) (by kernel_rfl) (fun _ _ _ h => h) (Or.inl ⟨by rfl, fun w hw => by go_simp⟩) s0 ?_
    try simp only [Act.put, List.setIfInBounds_toArray, List.set_cons_zero, List.set_cons_succ]
    refine takeC (i := 1) (.pointer (some ⟨b, 0, none⟩)) rfl (by kernel_rfl) (by kernel_rfl) (by kernel_rfl) (fun _ _ _ h => h) (Or.inl ⟨by rfl, fun w hw => by go_simp⟩) s0 ?_
    try simp only [Act.put, List.setIfInBounds_toArray, List.set_cons_zero, List.set_cons_succ]
    refine takeC (i := 2) (.pointer (some ⟨b, 6, none⟩)) rfl (by kernel_rfl) (by kernel_rfl) (by kernel_rfl) (fun _ _ _ h => h) (Or.inl ⟨by rfl, fun w hw => by go_simp⟩) s0 ?_
    try simp only [Act.put, List.setIfInBounds_toArray, List.set_cons_zero, List.set_cons_succ]
    refine takeC (i := 3) (.int .i64 t.kind) rfl (by kernel_rfl) (by kernel_rfl) (by kernel_rfl) (fun _ _ _ h => h) (Or.inl ⟨by rfl, fun w hw => by go_simp⟩) s0 ?_
    try simp only [Act.put, List.setIfInBounds_toArray, List.set_cons_zero, List.set_cons_succ]
    refine takeC (i := 4) (.pointer (some ⟨b, 0, none⟩)) rfl (by kernel_rfl) (by kernel_rfl) (by kernel_rfl) (fun _ _ _ h => h) (Or.inl ⟨by rfl, fun w hw => by go_simp⟩) s0 ?_
    try simp only [Act.put, List.setIfInBounds_toArray, List.set_cons_zero, List.set_cons_succ]
    refine takeC (i := 5) (.pointer (some ⟨b, 0, none⟩)) rfl (by kernel_rfl) (by kernel_rfl) (by kernel_rfl) (fun _ _ _ h => h) (Or.inl ⟨by rfl, fun w hw => by go_simp⟩) s0 ?_
    try simp only [Act.put, List.setIfInBounds_toArray, List.set_cons_zero, List.set_cons_succ]
    refine takeC (i := 6) (.pointer (some ⟨b, 7, none⟩)) rfl (by kernel_rfl) (by kernel_rfl) (by kernel_rfl) (fun _ _ _ h => h) (Or.inl ⟨by rfl, fun w hw => by go_simp⟩) s0 ?_
    try simp only [Act.put, List.setIfInBounds_toArray, List.set_cons_zero, List.set_cons_succ]
    refine takeC (i := 7) (.int .u64 t.round) rfl (by kernel_rfl) (by kernel_rfl) (by kernel_rfl) (fun _ _ _ h => h) (Or.inl ⟨by rfl, fun w hw => by go_simp⟩) s0 ?_
    try simp only [Act.put, List.setIfInBounds_toArray, List.set_cons_zero, List.set_cons_succ]
    refine takeC (i := 8) (.agg #[.int .i64 t.kind, .int .u64 t.round, .slice none 0 0, .slice none 0 0]) rfl (by kernel_rfl) (by kernel_rfl) (by kernel_rfl) (fun _ _ _ h => h) (Or.inl ⟨by rfl, fun w hw => by go_simp⟩) s0 ?_
    try simp only [Act.put, List.setIfInBounds_toArray, List.set_cons_zero, List.set_cons_succ]
    refine consC (i := 9) rfl (by kernel_rfl) (fun K hK => ?_)
    go_simp
    have hn4 : Blk (w3.alloc (.cells #[.int .i64 0, .int .u64 0, .slice none 0 0, .slice none 0 0] 39)) w3.heap.size 39 #[.int .i64 0, .int .u64 0, .slice none 0 0, .slice none 0 0] := Blk.new _ _ _
    have f4 : Frm noB w3 (w3.alloc (.cells #[.int .i64 0, .int .u64 0, .slice none 0 0, .slice none 0 0] 39)) := (Frm.refl _ _).alloc _
    have s1 : (w3.alloc (.cells #[.int .i64 0, .int .u64 0, .slice none 0 0, .slice none 0 0] 39)).cell? ⟨b, 6, none⟩ = some (.int .i64 t.kind) ∧ (w3.alloc (.cells #[.int .i64 0, .int .u64 0, .slice none 0 0, .slice none 0 0] 39)).cell? ⟨b, 7, none⟩ = some (.int .u64 t.round) := ⟨f4.cell_some s0.1 (fun h => h), f4.cell_some s0.2 (fun h => h)⟩
    have G4 := Lib.hid (G3.out.trans' f4.any)
    have E4 := Lib.hid (E3.out.frm' f4)
    have Z4 := Lib.hid (Z3.out.frm' f4)
    have N4 := Lib.hid hn4
    clear G3 E3 Z3 hn4 f4
    generalize w3.alloc (.cells #[.int .i64 0, .int .u64 0, .slice none 0 0, .slice none 0 0] 39) = w4 at *
    refine hK.out _ _ s1 (fun hHeld => ?_)
    clear hK K
    try simp only [Act.put, List.setIfInBounds_toArray, List.set_cons_zero, List.set_cons_succ]
    have y0 := N4.out.cell 0
    have y1 := N4.out.cell 1
    have y2 := N4.out.cell 2
    have y3 := N4.out.cell 3
    have z0 := N4.out.frozen 0
    have z1 := N4.out.frozen 1
    have z2 := N4.out.frozen 2
    have z3 := N4.out.frozen 3
    simp at y0 y1 y2 y3
    refine consC (i := 10) rfl (by kernel_rfl) (fun K hK => ?_)
    go_simp
    have N5 := (((N4.out.set_ 0 (.int .i64 t.kind)).set_ 1 (.int .u64 t.round)).set_ 2 (.slice none 0 0)).set_ 3 (.slice none 0 0)
    simp only [List.setIfInBounds_toArray, List.set_cons_succ, List.set_cons_zero] at N5
    have f5 : Frm (isB w3.heap.size) w4 ((((w4.setCell ⟨w3.heap.size, 0, none⟩ (.int .i64 t.kind)).setCell ⟨w3.heap.size, 1, none⟩ (.int .u64 t.round)).setCell ⟨w3.heap.size, 2, none⟩ (.slice none 0 0)).setCell ⟨w3.heap.size, 3, none⟩ (.slice none 0 0)) :=
      ((((Frm.refl (isB w3.heap.size) w4).setCell (a := ⟨w3.heap.size, 0, none⟩) (.inl (show isB w3.heap.size w3.heap.size from rfl)) _).setCell (a := ⟨w3.heap.size, 1, none⟩) (.inl (show isB w3.heap.size w3.heap.size from rfl)) _).setCell (a := ⟨w3.heap.size, 2, none⟩) (.inl (show isB w3.heap.size w3.heap.size from rfl)) _).setCell (a := ⟨w3.heap.size, 3, none⟩) (.inl (show isB w3.heap.size w3.heap.size from rfl)) _
    clear y0 y1 y2 y3 z0 z1 z2 z3 N4
    generalize (((w4.setCell ⟨w3.heap.size, 0, none⟩ (.int .i64 t.kind)).setCell ⟨w3.heap.size, 1, none⟩ (.int .u64 t.round)).setCell ⟨w3.heap.size, 2, none⟩ (.slice none 0 0)).setCell ⟨w3.heap.size, 3, none⟩ (.slice none 0 0) = w5 at *
    have lg3 : ∀ q, G q → q < w.heap.size := HL.out
    have hbw : b < w.heap.size := lg3 b E4.out.gb
    have s5 : w5.cell? ⟨b, 6, none⟩ = some (.int .i64 t.kind) ∧ w5.cell? ⟨b, 7, none⟩ = some (.int .u64 t.round) := ⟨f5.cell_some s1.1 (fun e => by have : b = w3.heap.size := e; omega), f5.cell_some s1.2 (fun e => by have : b = w3.heap.size := e; omega)⟩
    have R5 : Hid (RCl w w5 b w.heap.size w3.heap.size G t tv rv te re 0 0 (.slice none 0 0) (.slice none 0 0) []) :=
      ⟨G4.out.trans f5 fun q hq e => by have : q = w3.heap.size := e; omega, E4.out.frm f5 fun q hq e => by have := lg3 q hq; have : q = w3.heap.size := e; omega, Z4.out.frm f5 (fun e => by have : w.heap.size = w3.heap.size := e; omega), N5, World.ownsRow_nil _ _ _ _, ⟨World.ownsRow_nil _ _ _ _, rfl, fun i h => absurd h (by simp), fun i j h => absurd h (by simp)⟩, Nat.le_refl _, Nat.le_of_lt lt3, Nat.ne_of_lt lt3, lg3⟩
    clear N5 f5
    refine hK.out _ _ s5 (fun hHeld => ?_)
    clear hK K
    try simp only [Act.put, List.setIfInBounds_toArray, List.set_cons_zero, List.set_cons_succ]
    refine wpAnyH_done (by kernel_rfl) ?_ _
    clear s0 s1 s5 G4 E4 Z4 hHeld lt3 hbz
    generalize w3.heap.size = g4 at *
    go_wp2_with fail
    go_loopw [5] (fun i wr => ∃ (k : Nat) (wv xv : Value) (vs : List Value), k ≤ t.tk.length ∧ i = .int .i64 k ∧ RCl w wr b w.heap.size g4 G t tv rv te re k k wv xv vs) (fun i _ => t.tk.length - (intOf i).toNat)
    case atStart => exact ⟨0, _, _, _, Nat.zero_le _, rfl, R5.out⟩
    case round =>
      obtain ⟨k, wv, xv, vs, hk, rfl, hR⟩ := hrel
      have hlen : t.tk.length ≤ 256 := by have := HB.out.lt; have := HB.out.mo; omega
      by_cases hkl : k < t.tk.length
      · have hT : IsTk wr G tv te t.tk := hR.ent.tk
        obtain ⟨g, cg, A', c', e1, hcg, d1, d2, hr, _, _⟩ := hT.cell hkl
        subst e1
        obtain ⟨Aw, cw, rfl, hcw⟩ := own_slice hR.who
        obtain ⟨Ax, cx, rfl, hcx⟩ := own_slice hR.box.row
        have c9 := hR.ent.blk.cell 9
        have y2 := hR.z4.cell 2
        simp at c9 y2
        have hvs : vs.length ≤ 256 := by have := hR.box.len; simp at this; omega
        have HR := Lib.hid hR
        have HRR := Lib.hid hr
        have HT := Lib.hid hT
        have fa : Frm noB wr (wr.alloc (.cells #[.int .i64 t.tk[k].1] 3)).drew := ((Frm.refl noB wr).alloc _).drew
        have HW : Hid ((wr.alloc (.cells #[.int .i64 t.tk[k].1] 3)).drew.ownsRow w.heap.size 3 1 (.slice Aw k cw) k (((t.tk.take k).map (·.1)).map iv)) := Lib.hid (own_frm' hR.who fa)
        have HD : Hid (Rd (wr.alloc (.cells #[.int .i64 t.tk[k].1] 3)).drew (some ⟨wr.heap.size, 0, none⟩) [.int .i64 t.tk[k].1]) := Lib.hid (Rd.laid1 wr 3 _)
        have hbs : w.heap.size ≤ (wr.alloc (.cells #[.int .i64 t.tk[k].1] 3)).drew.heap.size := Nat.le_trans hR.fr.size fa.size
        have B9 : Hid (Blk (wr.alloc (.cells #[.int .i64 t.tk[k].1] 3)).drew g4 39 #[.int .i64 t.kind, .int .u64 t.round, .slice Aw k cw, .slice Ax vs.length cx]) := Lib.hid (hR.z4.frm' fa)
        have y2a : (wr.alloc (.cells #[.int .i64 t.tk[k].1] 3)).cell? ⟨g4, 2, none⟩ = some (.slice Aw k cw) := ((Frm.refl noB wr).alloc _).cell_some y2 (fun h => h)
        have FA := Lib.hid fa
        clear fa
        clear hR hr d2 hT R5
        go_upto_region 9 with fail
        go_cut [] from 27 to 62 (fun w6 => ∃ A5 q5, RCl w w6 b w.heap.size g4 G t (.slice (some ⟨g, 0, none⟩) t.tk.length cg) rv te re (k + 1) k (.slice A5 (k + 1) q5) (.slice Ax vs.length cx) vs)
        case first =>
          go_region_law (refine step_app info36 rfl w.heap.size HW.out _ _ rfl rfl (news := [.int .i64 t.tk[k].1]) rfl (by simp) HD.out (by intro u hu; simp at hu; subst hu; rfl) (by omega) (by omega) hbs ?_; intro A5 q5 w5 ho5 hq5 hf5 hv5; have B5 := Lib.hid (B9.out.frm hf5 (B9.out.own_ne (own_base HW.out fun _ _ => Nat.zero_le _) (by decide))); have x5 := B5.out.frozen 2; have y5 := B5.out.cell 2; simp at y5; have O5 := Lib.hid ho5; have F5 := Lib.hid hf5; clear ho5 hf5 hv5)
          all_goals
            have B6 := B5.out.set_ 2 (.slice A5 (k + 1) q5)
            have F6 : Frm (isB g4) w5 (w5.setCell ⟨g4, 2, none⟩ (.slice A5 (k + 1) q5)) := (Frm.refl (isB g4) w5).setCell (a := ⟨g4, 2, none⟩) (.inl (show isB g4 g4 from rfl)) _
            simp only [List.setIfInBounds_toArray, List.set_cons_succ, List.set_cons_zero] at B6
            have hh := Lib.hid (HR.out.who_ hkl ((FA.out.any (S := oB (.slice Aw k cw))).trans' F5.out) O5.out F6 B6)
            clear x5 y5 B6 F6
            go_wp2_with fail
            all_goals go_meet
            all_goals exact ⟨_, _, hh.out⟩
        case rest =>
          obtain ⟨A5, q5, hR6⟩ := hcut
          clear HW HD B9 c9 y2 y2a hbs FA HR HRR HT hcw hcx
          have hT : IsTk wc G (.slice (some ⟨g, 0, none⟩) t.tk.length cg) te t.tk := hR6.ent.tk
          obtain ⟨g', cg', A', c', e1, hcg', d1', d2, hr, _, _⟩ := hT.cell hkl
          injection e1 with e1 e2 e3
          injection e1 with e1
          injection e1 with e1 _ _
          subst e1; subst e3
          have c9 := hR6.ent.blk.cell 9
          have y3 := hR6.z4.cell 3
          simp at c9 y3
          have hLk : Len t.tk[k].2.length := Nat.le_trans (HB.out.bt _ (List.getElem_mem hkl)) (Nat.le_trans hBB (by decide))
          have R6 := Lib.hid hR6
          have HRR := Lib.hid hr
          have X6 := Lib.hid hR6.box.row
          have hbs : w.heap.size ≤ wc.heap.size := hR6.fr.size
          clear hR6 hr hT d1 d1' hcg hcg'
          go_upto_region 10 with fail
          go_region_law (first | (refine step_app1 info37 rfl w.heap.size X4.out _ _ rfl rfl rfl rfl (by omega) (by omega) (Nat.le_trans hbs F4.out.size) ?_; intro A7 q7 w7 ho7 hq7 hf7 hv7; have B7 := Lib.hid (B4.out.frm hf7 (B4.out.own_ne (own_base X4.out fun _ _ => Nat.zero_le _) (by decide))); have x7 := B7.out.frozen 3; have y7 := B7.out.cell 3; simp at y7; have O7 := Lib.hid ho7; have F7 := Lib.hid hf7; clear ho7 hf7 hv7) | (go_simp; go_at_call 16; refine (copyBytes_any A' t.tk[k].2 c' wc.drew HRR.out.drew hLk).mono ?_; rintro e w4 ⟨v, rfl, ho, hf⟩; obtain ⟨A4, q4, rfl, hq4⟩ := own_slice ho; have F4 := Lib.hid (((Frm.refl noB wc).drew).trans' hf); have B4 := Lib.hid (R6.out.z4.frm' F4.out); have X4 := Lib.hid (own_frm' X6.out F4.out); have y34 := F4.out.cell_some y3 (fun h => h); have y35 := ((Frm.refl noB w4).alloc (.cells #[.slice A4 t.tk[k].2.length q4] 35)).cell_some y34 (fun h => h); have O4 := Lib.hid ho; clear ho hf))
          all_goals
            have B8 := B7.out.set_ 3 (.slice A7 (vs.length + 1) q7)
            have F8 : Frm (isB g4) w7 (w7.setCell ⟨g4, 3, none⟩ (.slice A7 (vs.length + 1) q7)) := (Frm.refl (isB g4) w7).setCell (a := ⟨g4, 3, none⟩) (.inl (show isB g4 g4 from rfl)) _
            simp only [List.setIfInBounds_toArray, List.set_cons_succ, List.set_cons_zero] at B8
            have hh := Lib.hid (R6.out.box_ hkl F4.out O4.out F7.out O7.out F8 B8)
            clear x7 y7 B8 F8 y3 y34 y35 c9 d2
            go_wp2_with fail
            go_roundw
            case rel => exact ⟨k + 1, _, _, _, by omega, by go_num, hh.out⟩
            case measure => simp [intOf]; omega
      · have e : k = t.tk.length := by omega
        subst e
        have HR := Lib.hid hR
        obtain ⟨At, ct, rfl, hct⟩ := own_slice hR.ent.tk.row
        have hle : te.length = t.tk.length := hR.ent.tk.len
        have c9 := hR.ent.blk.cell 9
        simp at c9
        rw [hle] at c9
        obtain ⟨Aw, cw, rfl, hcw⟩ := own_slice hR.who
        obtain ⟨Ax, cx, rfl, hcx⟩ := own_slice hR.box.row
        have hvs : vs.length = t.tk.length := by have := hR.box.len; simpa using this
        have y0 := HR.out.z4.cell 0
        have y1 := HR.out.z4.cell 1
        have y2 := HR.out.z4.cell 2
        have y3 := HR.out.z4.cell 3
        have x0 := HR.out.z2.cell 0
        have x1 := HR.out.z2.cell 1
        have x2 := HR.out.z2.cell 2
        have x3 := HR.out.z2.cell 3
        have z0 := HR.out.z2.frozen 0
        have z1 := HR.out.z2.frozen 1
        have z2 := HR.out.z2.frozen 2
        have z3 := HR.out.z2.frozen 3
        simp at y0 y1 y2 y3 x0 x1 x2 x3
        rw [hvs] at y3
        have ZZ := (((HR.out.z2.set_ 0 (.int .i64 t.kind)).set_ 1 (.int .u64 t.round)).set_ 2 (.slice Aw t.tk.length cw)).set_ 3 (.slice Ax t.tk.length cx)
        simp only [List.setIfInBounds_toArray, List.set_cons_succ, List.set_cons_zero] at ZZ
        have fz : Frm (isB w.heap.size) wr ((((wr.setCell ⟨w.heap.size, 0, none⟩ (.int .i64 t.kind)).setCell ⟨w.heap.size, 1, none⟩ (.int .u64 t.round)).setCell ⟨w.heap.size, 2, none⟩ (.slice Aw t.tk.length cw)).setCell ⟨w.heap.size, 3, none⟩ (.slice Ax t.tk.length cx)) :=
          ((((Frm.refl (isB w.heap.size) wr).setCell (a := ⟨w.heap.size, 0, none⟩) (.inl (show isB w.heap.size w.heap.size from rfl)) _).setCell (a := ⟨w.heap.size, 1, none⟩) (.inl (show isB w.heap.size w.heap.size from rfl)) _).setCell (a := ⟨w.heap.size, 2, none⟩) (.inl (show isB w.heap.size w.heap.size from rfl)) _).setCell (a := ⟨w.heap.size, 3, none⟩) (.inl (show isB w.heap.size w.heap.size from rfl)) _
        have HZZ := Lib.hid ZZ
        have HFZ := Lib.hid fz
        have HVS := Lib.hid hvs
        clear ZZ fz hR hvs hct hcw hcx
        go_wp2_with fail
        try simp only [Exit.inBlock, Exit.then]
        refine bodyPost_ret (results_row_tmp rfl _ _ w.heap.size 39 _ (0, 0) _ rfl HZZ.out Try.underlying39 rfl (by kernel_rfl)) rfl ?_
        generalize (((wr.setCell ⟨w.heap.size, 0, none⟩ (.int .i64 t.kind)).setCell ⟨w.heap.size, 1, none⟩ (.int .u64 t.round)).setCell ⟨w.heap.size, 2, none⟩ (.slice Aw t.tk.length cw)).setCell ⟨w.heap.size, 3, none⟩ (.slice Ax t.tk.length cx) = wz at *
        have hR := HR.out
        have ng : ∀ {v : Value} {e n : Nat} {ys : List Value}, wr.ownsRow w.heap.size e 1 v n ys → e ≠ 39 → ∀ q, oB v q → ¬ isB w.heap.size q := fun ho he q hq e => hR.z2.own_ne (own_base ho fun _ _ => Nat.zero_le _) he ((show q = w.heap.size from e) ▸ hq)
        have W1 := own_frm hR.who HFZ.out (ng hR.who (by decide))
        have X1 := hR.box.frm HFZ.out (ng hR.box.row (by decide)) fun i hi => ng (hR.box.each i hi (by have := hR.box.len; omega)) (by decide)
        rw [List.take_length] at W1 X1
        refine .inr ⟨h1, Aw, cw, Ax, cx, rfl, ⟨_, _, _, _, hR.ent.frm HFZ.out fun q hq e => by have := hR.lg q hq; have : q = w.heap.size := e; omega⟩, Rd.of_own W1, fun k hk => (own_lt W1 k (by obtain ⟨a, rfl, rfl⟩ := hk; rfl)).1, X1.rd.2.mono fun _ h => h.1, hR.fr.trans HFZ.out fun q hq e => by have : q = w.heap.size := e; omega⟩
  · have h1' : t.op = false := by simpa using h1
    go_enter Try.func39, Try.ntmps39
    go_upto_region 1 with fail
    generalize w.alloc (.cells #[.int .i64 0, .int .u64 0, .slice none 0 0, .slice none 0 0] 39) = w1 at *
    have c4 := H0.out.blk.cell 4
    simp [h1'] at c4
    have y0 := Z0.out.cell 0
    have y1 := Z0.out.cell 1
    have y2 := Z0.out.cell 2
    have y3 := Z0.out.cell 3
    have z0 := Z0.out.frozen 0
    have z1 := Z0.out.frozen 1
    have z2 := Z0.out.frozen 2
    have z3 := Z0.out.frozen 3
    simp at y0 y1 y2 y3
    have ZZ := (((Z0.out.set_ 0 (.int .i64 0)).set_ 1 (.int .u64 0)).set_ 2 (.slice none 0 0)).set_ 3 (.slice none 0 0)
    simp only [List.setIfInBounds_toArray, List.set_cons_succ, List.set_cons_zero] at ZZ
    have HZZ := Lib.hid ZZ
    clear ZZ
    go_wp2
    try simp only [Exit.inBlock, Exit.then]
    refine bodyPost_ret (results_row_tmp rfl _ _ w.heap.size 39 _ (0, 0) _ rfl HZZ.out Try.underlying39 rfl (by kernel_rfl)) rfl ?_
    have FF : Frm noB w ((((w1.setCell ⟨w.heap.size, 0, none⟩ (.int .i64 0)).setCell ⟨w.heap.size, 1, none⟩ (.int .u64 0)).setCell ⟨w.heap.size, 2, none⟩ (.slice none 0 0)).setCell ⟨w.heap.size, 3, none⟩ (.slice none 0 0)) :=
      (((F0.out.setCell (a := ⟨w.heap.size, 0, none⟩) (.inr (Nat.le_refl _)) _).setCell (a := ⟨w.heap.size, 1, none⟩) (.inr (Nat.le_refl _)) _).setCell (a := ⟨w.heap.size, 2, none⟩) (.inr (Nat.le_refl _)) _).setCell (a := ⟨w.heap.size, 3, none⟩) (.inr (Nat.le_refl _)) _
    exact .inl ⟨h1', rfl, HE.out.frm' FF, FF⟩
end
end Go.Proofs.Ytjnoddbhfcpniaa
