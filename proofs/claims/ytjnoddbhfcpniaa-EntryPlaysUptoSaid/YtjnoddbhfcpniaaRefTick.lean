/-
  EntryPlays: the document's Tick.
-/
import Derived.Test.YtjnoddbhfcpniaaRefClose
namespace Go.Proofs.Ytjnoddbhfcpniaa
open Go.RowKit
open Go.BigFrame
set_option linter.unusedVariables false
set_option linter.unusedSimpArgs false

section
variable {w : World} {b : Nat} {G : Nat → Prop} {t : RS}
/-- what Tick hands on -/
def RTicked (w : World) (b : Nat) (t : RS) (G : Nat → Prop) (now : Int) (e : Ending) (w' : World) : Prop :=
  (¬ (t.op = true ∧ t.til ≤ now) ∧ e = .returned (.tuple #[.agg #[.int .i64 0, .int .u64 0, .slice none 0 0, .slice none 0 0], .bool false]) ∧ EntR w' b t G ∧ Frm noB w w') ∨
  ((t.op = true ∧ t.til ≤ now) ∧ ∃ Aw cw Ax cx, e = .returned (.tuple #[.agg #[.int .i64 t.kind, .int .u64 t.round, .slice Aw t.tk.length cw, .slice Ax t.tk.length cx], .bool true]) ∧ EntR w' b (rclosed t) G ∧ Rd w' Aw ((t.tk.map (·.1)).map iv) ∧ (∀ k, aB Aw k → w.heap.size ≤ k) ∧ RdRows w' Ax (t.tk.map (·.2)) (fun k => w.heap.size ≤ k) ∧ Frm (isB b) w w')
set_option maxRecDepth 100000 in
set_option maxHeartbeats 400000 in
theorem rtick_c (h : EntR w b t G) {B : Nat} (hB : RB t B) (hBB : B ≤ 100000000) (now : Int) : Calls Try.prog 37 #[.pointer (some ⟨b, 0, none⟩), .int .i64 now] w (RTicked w b t G now) := by
  have HE := Lib.hid h
  obtain ⟨tv, rv, te, re, h⟩ := h
  have hf0 : Frm noB w (w.alloc (.cells #[.int .i64 0, .int .u64 0, .slice none 0 0, .slice none 0 0] 39)) := (Frm.refl _ _).alloc _
  have hZ : Blk (w.alloc (.cells #[.int .i64 0, .int .u64 0, .slice none 0 0, .slice none 0 0] 39)) w.heap.size 39 #[.int .i64 0, .int .u64 0, .slice none 0 0, .slice none 0 0] := Blk.new _ _ _
  have F0 := Lib.hid hf0
  have Z0 := Lib.hid hZ
  have H0 := Lib.hid (h.frm' hf0)
  have HB := Lib.hid hB
  have HL := Lib.hid h.lt
  clear h hf0 hZ hB
  by_cases hy : t.op = true ∧ t.til ≤ now
  · obtain ⟨h1, h2⟩ := hy
    have h2' : ¬ now < t.til := by omega
    go_enter Try.func37, Try.ntmps37
    go_upto_region 1 with fail
    generalize w.alloc (.cells #[.int .i64 0, .int .u64 0, .slice none 0 0, .slice none 0 0] 39) = w1 at *
    have c4 := H0.out.blk.cell 4
    have c8 := H0.out.blk.cell 8
    simp [h1] at c4 c8
    go_wp2_with fail
    refine (rclose_c (b := b) (t := t) (G := G) ⟨_, _, _, _, H0.out⟩ HB.out hBB).mono ?_
    rintro _ w2 (⟨hno, _⟩ | ⟨_, Aw, cw, Ax, cx, rfl, hE, hw, hwa, hx, hf⟩)
    · rw [h1] at hno; cases hno
    · have F2 := Lib.hid ((F0.out.any (S := isB b)).trans' hf)
      have Z2 := Lib.hid (Z0.out.frm hf (fun e => by have := HL.out b H0.out.gb; have : w.heap.size = b := e; omega))
      have E2 := Lib.hid hE
      have W2 := Lib.hid hw
      have X2 := Lib.hid hx
      have hgx : w.heap.size < w2.heap.size := Z2.out.lt
      have hg1 : w.heap.size < w1.heap.size := Z0.out.lt
      have HWA := Lib.hid hwa
      have HG1 := Lib.hid hg1
      clear hwa hg1
      clear hE hw hx hf c4 c8
      try dsimp only
      have N3 : Blk (w2.alloc (.cells #[.int .i64 t.kind, .int .u64 t.round, .slice Aw t.tk.length cw, .slice Ax t.tk.length cx] 39)) w2.heap.size 39 #[.int .i64 t.kind, .int .u64 t.round, .slice Aw t.tk.length cw, .slice Ax t.tk.length cx] := Blk.new _ _ _
      have f3 : Frm noB w2 (w2.alloc (.cells #[.int .i64 t.kind, .int .u64 t.round, .slice Aw t.tk.length cw, .slice Ax t.tk.length cx] 39)) := (Frm.refl _ _).alloc _
      have N3' := Lib.hid N3
      have F3 := Lib.hid f3
      clear N3 f3
      go_upto_region 4 with fail
      have Z3 := Lib.hid (Z2.out.frm' F3.out)
      have E3 := Lib.hid (E2.out.frm' F3.out)
      have W3 := Lib.hid (W2.out.frm' F3.out)
      have X3 := Lib.hid (X2.out.frm' F3.out)
      have G3 := Lib.hid (F2.out.trans' F3.out.any)
      clear Z2 E2 W2 X2 F2 F3 Z0 H0 F0
      generalize w2.alloc (.cells #[.int .i64 t.kind, .int .u64 t.round, .slice Aw t.tk.length cw, .slice Ax t.tk.length cx] 39) = w3 at *
      generalize w2.heap.size = g6 at *
      have y0 := N3'.out.cell 0
      have y1 := N3'.out.cell 1
      have y2 := N3'.out.cell 2
      have y3 := N3'.out.cell 3
      have x0 := Z3.out.cell 0
      have x1 := Z3.out.cell 1
      have x2 := Z3.out.cell 2
      have x3 := Z3.out.cell 3
      have z0 := Z3.out.frozen 0
      have z1 := Z3.out.frozen 1
      have z2 := Z3.out.frozen 2
      have z3 := Z3.out.frozen 3
      simp at y0 y1 y2 y3 x0 x1 x2 x3
      have ZZ := (((Z3.out.set_ 0 (.int .i64 t.kind)).set_ 1 (.int .u64 t.round)).set_ 2 (.slice Aw t.tk.length cw)).set_ 3 (.slice Ax t.tk.length cx)
      simp only [List.setIfInBounds_toArray, List.set_cons_succ, List.set_cons_zero] at ZZ
      have fz : Frm (isB w.heap.size) w3 ((((w3.setCell ⟨w.heap.size, 0, none⟩ (.int .i64 t.kind)).setCell ⟨w.heap.size, 1, none⟩ (.int .u64 t.round)).setCell ⟨w.heap.size, 2, none⟩ (.slice Aw t.tk.length cw)).setCell ⟨w.heap.size, 3, none⟩ (.slice Ax t.tk.length cx)) :=
        ((((Frm.refl (isB w.heap.size) w3).setCell (a := ⟨w.heap.size, 0, none⟩) (.inl (show isB w.heap.size w.heap.size from rfl)) _).setCell (a := ⟨w.heap.size, 1, none⟩) (.inl (show isB w.heap.size w.heap.size from rfl)) _).setCell (a := ⟨w.heap.size, 2, none⟩) (.inl (show isB w.heap.size w.heap.size from rfl)) _).setCell (a := ⟨w.heap.size, 3, none⟩) (.inl (show isB w.heap.size w.heap.size from rfl)) _
      have HZZ := Lib.hid ZZ
      have HFZ := Lib.hid fz
      clear ZZ fz
      go_wp2_with fail
      try simp only [Exit.inBlock, Exit.then]
      refine bodyPost_ret (results_row_tmp rfl _ _ w.heap.size 39 _ (0, 0) _ rfl HZZ.out Try.underlying39 rfl (by kernel_rfl)) rfl ?_
      have hgl := HG1.out
      refine .inr ⟨⟨h1, by omega⟩, Aw, cw, Ax, cx, rfl, E3.out.frm HFZ.out fun q hq e => by have := HL.out q hq; have : q = w.heap.size := e; omega, W3.out.frm HFZ.out fun q hq e => by have := HWA.out q hq; have : q = w.heap.size := e; omega, fun q hq => by have := HWA.out q hq; omega, (X3.out.frm HFZ.out fun q hq e => by have : q = w.heap.size := e; omega).mono fun q hq => by omega, G3.out.trans HFZ.out fun q hq e => by have : q = w.heap.size := e; omega⟩
  · have key : ∀ q : Bool, t.op = q → (q = true → now < t.til) → Calls Try.prog 37 #[.pointer (some ⟨b, 0, none⟩), .int .i64 now] w (RTicked w b t G now) := by
      intro q hq hlt
      go_enter Try.func37, Try.ntmps37
      go_upto_region 1 with fail
      generalize w.alloc (.cells #[.int .i64 0, .int .u64 0, .slice none 0 0, .slice none 0 0] 39) = w1 at *
      have y0 := Z0.out.cell 0
      have y1 := Z0.out.cell 1
      have y2 := Z0.out.cell 2
      have y3 := Z0.out.cell 3
      have z0 := Z0.out.frozen 0
      have z1 := Z0.out.frozen 1
      have z2 := Z0.out.frozen 2
      have z3 := Z0.out.frozen 3
      simp at y0 y1 y2 y3
      have ZZ := (((Z0.out.set_ 0 (.int .i64 0)).set_ 1 (.int .u64 0)).set_ 2 (.slice none 0 0)).set_ 3 (.slice none 0 0)
      simp only [List.setIfInBounds_toArray, List.set_cons_succ, List.set_cons_zero] at ZZ
      have HZZ := Lib.hid ZZ
      have c4 := H0.out.blk.cell 4
      have c8 := H0.out.blk.cell 8
      simp [hq] at c4 c8
      clear ZZ hq
      have FF : Frm noB w ((((w1.setCell ⟨w.heap.size, 0, none⟩ (.int .i64 0)).setCell ⟨w.heap.size, 1, none⟩ (.int .u64 0)).setCell ⟨w.heap.size, 2, none⟩ (.slice none 0 0)).setCell ⟨w.heap.size, 3, none⟩ (.slice none 0 0)) :=
        (((F0.out.setCell (a := ⟨w.heap.size, 0, none⟩) (.inr (Nat.le_refl _)) _).setCell (a := ⟨w.heap.size, 1, none⟩) (.inr (Nat.le_refl _)) _).setCell (a := ⟨w.heap.size, 2, none⟩) (.inr (Nat.le_refl _)) _).setCell (a := ⟨w.heap.size, 3, none⟩) (.inr (Nat.le_refl _)) _
      have HFF := Lib.hid FF
      clear FF
      have fin : Hid (RTicked w b t G now (.returned (.tuple #[.agg #[.int .i64 0, .int .u64 0, .slice none 0 0, .slice none 0 0], .bool false])) ((((w1.setCell ⟨w.heap.size, 0, none⟩ (.int .i64 0)).setCell ⟨w.heap.size, 1, none⟩ (.int .u64 0)).setCell ⟨w.heap.size, 2, none⟩ (.slice none 0 0)).setCell ⟨w.heap.size, 3, none⟩ (.slice none 0 0))) := .inl ⟨hy, rfl, HE.out.frm' HFF.out, HFF.out⟩
      clear hy
      cases q
      · go_wp2
        try simp only [Exit.inBlock, Exit.then]
        refine bodyPost_ret (results_row_tmp rfl _ _ w.heap.size 39 _ (0, 0) _ rfl HZZ.out Try.underlying39 rfl (by kernel_rfl)) rfl ?_
        exact fin.out
      · have hlt' := hlt rfl
        clear hlt
        go_wp2
        try simp only [Exit.inBlock, Exit.then]
        refine bodyPost_ret (results_row_tmp rfl _ _ w.heap.size 39 _ (0, 0) _ rfl HZZ.out Try.underlying39 rfl (by kernel_rfl)) rfl ?_
        exact fin.out
    exact key t.op rfl fun h => by
      refine Int.not_le.1 fun h2 => hy ⟨h, h2⟩
end
end Go.Proofs.Ytjnoddbhfcpniaa
