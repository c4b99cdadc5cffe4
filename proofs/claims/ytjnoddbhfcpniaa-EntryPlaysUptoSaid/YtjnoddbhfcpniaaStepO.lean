/-
  EntryPlays: the law's step, Open.
-/
import Derived.Test.YtjnoddbhfcpniaaStepA
namespace Go.Proofs.Ytjnoddbhfcpniaa
open Go.RowKit
open Go.BigFrame
set_option linter.unusedVariables false
set_option linter.unusedSimpArgs false

theorem wrap_eq (x : Int) : wrap64 x = IntKind.i64.wrap x := (IntWalk.i64_left x).symm
theorem sizes_calls (args : Array Value) (w : World) : (callFunc 42 args).run Try.prog w = .ok (.enter 42 args) w := by
  go_simp
theorem EntR.gb {w : World} {b : Nat} {t : RS} {G : Nat → Prop} (h : EntR w b t G) : G b := by
  obtain ⟨tv, rv, te, re, h⟩ := h
  exact h.gb
section
variable {w w' : World} {I : Ids} {F G P : Nat → Prop} {s s' : ES} {t : RS} {m n : Int}
theorem PrM.opened (h : PrM w I F G P s t m n) {n' : Int} (hE : EntF w' I.eb I.fv s' F) (hf : Frm (fun k => F k ∨ k = I.ab) w w') (ha : Blk w' I.ab 70 #[.int .i64 n']) : PrM w' I F G P s' t m n' := by
  have hs := fun k hk => h.fs k (.inl hk)
  have nb : ¬ (F I.bb ∨ I.bb = I.ab) := fun e => by
    rcases e with e | e
    · exact (hs _ e).1 rfl
    · exact h.both.ne_ h.asked (by decide) e
  have nl : ¬ (F I.lb ∨ I.lb = I.ab) := fun e => by
    rcases e with e | e
    · exact (hs _ e).2.2.1 rfl
    · exact h.lbox.ne_ h.asked (by decide) e
  have nx : ¬ (F I.xb ∨ I.xb = I.ab) := fun e => by
    rcases e with e | e
    · exact (hs _ e).2.2.2 rfl
    · exact h.abox.ne_ h.asked (by decide) e
  exact ⟨h.both.frm hf nb, ha, h.lbox.frm hf nl, h.abox.frm hf nx, hE, h.ref.frm hf fun k hk e => by
    rcases e with e | e
    · exact h.fg k e hk
    · exact (h.fs k (.inr hk)).2.1 e, h.fg, h.fs, h.p, fun k hk => Nat.lt_of_lt_of_le (h.pl k hk) hf.size⟩
theorem PrM.size_ (h : PrM w I F G P s t m n) (kind : Int) {w0 : World} (hf : Frm F w w0) : Calls Try.prog 42 (#[.int .i64 kind] ++ #[.pointer (some ⟨I.xb, 0, none⟩), .pointer (some ⟨I.lb, 0, none⟩)]) w0 fun e w' => e = .returned (.int .i64 (t.size kind)) ∧ Frm (isB I.ab) w0 w' ∧ Blk w' I.ab 70 #[.int .i64 (IntKind.i64.wrap (n + 1))] := by
  have hs := fun k hk => h.fs k (.inl hk)
  exact size_any w0 I.xb I.lb I.ab t.z1 t.z2 n kind (h.abox.frm hf fun hk => (hs _ hk).2.2.2 rfl) (h.lbox.frm hf fun hk => (hs _ hk).2.2.1 rfl) (h.asked.frm hf fun hk => (hs _ hk).2.1 rfl)
theorem PrM.want (h : PrM w I F G P s t m n) (m' : Int) : PrM (w.setCell ⟨I.bb, 3, none⟩ (.int .i64 m')) I F G P s t m' n := by
  have hf : Frm (isB I.bb) w (w.setCell ⟨I.bb, 3, none⟩ (.int .i64 m')) := (Frm.refl _ w).setCell (a := ⟨I.bb, 3, none⟩) (.inl (show isB I.bb I.bb from rfl)) _
  have hb := h.both.set_ 3 (.int .i64 m')
  simp only [List.setIfInBounds_toArray, List.set_cons_succ, List.set_cons_zero] at hb
  exact ⟨hb, h.asked.frm hf fun e => h.both.ne_ h.asked (by decide) (show I.ab = I.bb from e).symm, h.lbox.frm hf fun e => h.both.ne_ h.lbox (by decide) (show I.lb = I.bb from e).symm, h.abox.frm hf fun e => h.both.ne_ h.abox (by decide) (show I.xb = I.bb from e).symm,
    h.ent.frm hf fun k hk e => (h.fs k (.inl hk)).1 e, h.ref.frm hf fun k hk e => (h.fs k (.inr hk)).1 e, h.fg, h.fs, h.p, fun k hk => Nat.lt_of_lt_of_le (h.pl k hk) hf.size⟩
end
theorem StepTo.fin {w w1 : World} {I : Ids} {F G P Q : Nat → Prop} {s : ES} {t : RS} {m : Int} {B : Nat} (h : PrM w1 I F G Q s t m m) (hr : Rel s t) (hb : RB t B) (hf : Frm P w w1) (hQ : ∀ k, Q k → More P w w1 k) (hP : ∀ k, P k → k < w.heap.size) : StepTo w I P B w1 := by
  have s1 := hf.size
  refine ⟨F, G, s, t, m, h.more hQ (fun k hk => ?_), hr, hb, hf⟩
  rcases hk with hk | hk
  · have := hP k hk; omega
  · exact hk.2
section
variable {w : World} {I : Ids} {F G P : Nat → Prop} {s : ES} {t : RS} {m : Int} {B : Nat}
set_option maxRecDepth 100000 in
set_option maxHeartbeats 400000 in
theorem step_open (h : PrM w I F G P s t m m) (hr : Rel s t) (hb : RB t B) (hBB : B ≤ 1048576) (kind round at_ client : Int) (A Ar : Option Addr) (data : List UInt8) (rows : List (List UInt8)) (c cr : Nat) (hD : Rd w A (data.map bv)) (hA : data ≠ [] → ∀ k, aB A k → ¬ P k) (hL : data.length ≤ B) (hR : RdRows w Ar rows (fun k => ¬ P k)) (hRl : ∀ l ∈ rows, l.length ≤ B) (hRn : rows.length ≤ B) :
    Calls Try.prog 28 #[.pointer (some ⟨I.bb, 0, none⟩), .agg #[.int .i64 1, .int .i64 kind, .int .u64 round, .int .i64 at_, .int .i64 client, .slice A data.length c, .slice Ar rows.length cr]] w fun e w' => e = .returned (.bool true) ∧ StepTo w I P B w' := by
  have f1 : Frm noB w (w.alloc (.cells #[.int .i64 1, .int .i64 kind, .int .u64 round, .int .i64 at_, .int .i64 client, .slice A data.length c, .slice Ar rows.length cr] 68)) := (Frm.refl _ _).alloc _
  have b1 : Blk (w.alloc (.cells #[.int .i64 1, .int .i64 kind, .int .u64 round, .int .i64 at_, .int .i64 client, .slice A data.length c, .slice Ar rows.length cr] 68)) w.heap.size 68 #[.int .i64 1, .int .i64 kind, .int .u64 round, .int .i64 at_, .int .i64 client, .slice A data.length c, .slice Ar rows.length cr] := Blk.new _ _ _
  have hsz1 : w.heap.size < (w.alloc (.cells #[.int .i64 1, .int .i64 kind, .int .u64 round, .int .i64 at_, .int .i64 client, .slice A data.length c, .slice Ar rows.length cr] 68)).heap.size := b1.lt
  have H1 := Lib.hid (h.frm' f1)
  have D1 := Lib.hid (hD.frm' f1)
  have W1 := Lib.hid (hR.frm' f1)
  have B1 := Lib.hid b1
  have F1 := Lib.hid f1
  have PL := Lib.hid h.pl
  have HR := Lib.hid hr
  have HB := Lib.hid hb
  have HAP := Lib.hid hA
  have HRL := Lib.hid hRl
  clear h hD f1 b1 hr hb hA hR hRl
  go_enter Try.func28, Try.ntmps28
  go_upto_region 1 with fail
  generalize w.alloc (.cells #[.int .i64 1, .int .i64 kind, .int .u64 round, .int .i64 at_, .int .i64 client, .slice A data.length c, .slice Ar rows.length cr] 68) = w1 at *
  have c0 := B1.out.cell 0
  simp at c0
  go_upto_region 3 with fail
  have a1 := H1.out.both.cell 1
  have d1 := B1.out.cell 1
  have d2 := B1.out.cell 2
  have d3 := B1.out.cell 3
  simp at a1 d1 d2 d3
  have s1 : w1.drew.cell? ⟨I.bb, 1, none⟩ = some (.pointer (some ⟨I.rb, 0, none⟩)) ∧ w1.drew.cell? ⟨w.heap.size, 1, none⟩ = some (.int .i64 kind) ∧ w1.drew.cell? ⟨w.heap.size, 2, none⟩ = some (.int .u64 round) ∧ w1.drew.cell? ⟨w.heap.size, 3, none⟩ = some (.int .i64 at_) := ⟨a1, d1, d2, d3⟩
  have F3 := Lib.hid (F1.out.drew)
  have H3 := Lib.hid (H1.out.frm' (Frm.refl noB w1).drew)
  have B3 := Lib.hid (B1.out.drew)
  refine wp_region_held_drew (S := fun W => W.cell? ⟨I.bb, 1, none⟩ = some (.pointer (some ⟨I.rb, 0, none⟩)) ∧ W.cell? ⟨w.heap.size, 1, none⟩ = some (.int .i64 kind) ∧ W.cell? ⟨w.heap.size, 2, none⟩ = some (.int .u64 round) ∧ W.cell? ⟨w.heap.size, 3, none⟩ = some (.int .i64 at_)) (by kernel_rfl) s1 (fun hHeld => ?_)
  clear a1 d1 d2 d3 hHeld c0
  generalize w1.drew = w3 at *
  refine takeC (i := 0) (.pointer (some ⟨I.bb, 0, none⟩)) rfl (by kernel_rfl) (by kernel_rfl) (by kernel_rfl) (fun _ _ _ h => h) (Or.inl ⟨by rfl, fun w hw => by go_simp⟩) s1 ?_
  try simp only [Act.put, List.setIfInBounds_toArray, List.set_cons_zero, List.set_cons_succ]
  refine takeC (i := 1) (.pointer (some ⟨I.bb, 0, none⟩)) rfl (by kernel_rfl) (by kernel_rfl) (by kernel_rfl) (fun _ _ _ h => h) (Or.inl ⟨by rfl, fun w hw => by go_simp⟩) s1 ?_
  try simp only [Act.put, List.setIfInBounds_toArray, List.set_cons_zero, List.set_cons_succ]
  refine takeC (i := 2) (.pointer (some ⟨I.bb, 1, none⟩)) rfl (by kernel_rfl) (by kernel_rfl) (by kernel_rfl) (fun _ _ _ h => h) (Or.inl ⟨by rfl, fun w hw => by go_simp⟩) s1 ?_
  try simp only [Act.put, List.setIfInBounds_toArray, List.set_cons_zero, List.set_cons_succ]
  refine takeC (i := 3) (.pointer (some ⟨I.rb, 0, none⟩)) rfl (by kernel_rfl) (by kernel_rfl) (by kernel_rfl) (fun _ _ _ h => h) (Or.inl ⟨by rfl, fun w hw => by go_simp⟩) s1 ?_
  try simp only [Act.put, List.setIfInBounds_toArray, List.set_cons_zero, List.set_cons_succ]
  refine takeC (i := 4) (.pointer (some ⟨w.heap.size, 1, none⟩)) rfl (by kernel_rfl) (by kernel_rfl) (by kernel_rfl) (fun _ _ _ h => h) (Or.inl ⟨by rfl, fun w hw => by go_simp⟩) s1 ?_
  try simp only [Act.put, List.setIfInBounds_toArray, List.set_cons_zero, List.set_cons_succ]
  refine takeC (i := 5) (.int .i64 kind) rfl (by kernel_rfl) (by kernel_rfl) (by kernel_rfl) (fun _ _ _ h => h) (Or.inl ⟨by rfl, fun w hw => by go_simp⟩) s1 ?_
  try simp only [Act.put, List.setIfInBounds_toArray, List.set_cons_zero, List.set_cons_succ]
  refine takeC (i := 6) (.pointer (some ⟨w.heap.size, 2, none⟩)) rfl (by kernel_rfl) (by kernel_rfl) (by kernel_rfl) (fun _ _ _ h => h) (Or.inl ⟨by rfl, fun w hw => by go_simp⟩) s1 ?_
  try simp only [Act.put, List.setIfInBounds_toArray, List.set_cons_zero, List.set_cons_succ]
  refine takeC (i := 7) (.int .u64 round) rfl (by kernel_rfl) (by kernel_rfl) (by kernel_rfl) (fun _ _ _ h => h) (Or.inl ⟨by rfl, fun w hw => by go_simp⟩) s1 ?_
  try simp only [Act.put, List.setIfInBounds_toArray, List.set_cons_zero, List.set_cons_succ]
  refine takeC (i := 8) (.pointer (some ⟨w.heap.size, 3, none⟩)) rfl (by kernel_rfl) (by kernel_rfl) (by kernel_rfl) (fun _ _ _ h => h) (Or.inl ⟨by rfl, fun w hw => by go_simp⟩) s1 ?_
  try simp only [Act.put, List.setIfInBounds_toArray, List.set_cons_zero, List.set_cons_succ]
  refine takeC (i := 9) (.int .i64 at_) rfl (by kernel_rfl) (by kernel_rfl) (by kernel_rfl) (fun _ _ _ h => h) (Or.inl ⟨by rfl, fun w hw => by go_simp⟩) s1 ?_
  try simp only [Act.put, List.setIfInBounds_toArray, List.set_cons_zero, List.set_cons_succ]
  refine consC (i := 10) rfl (by kernel_rfl) (fun K hK => ?_)
  go_simp
  have hwP : ¬ P w.heap.size := fun h => by have := PL.out _ h; omega
  have hGr := H3.out.ref.gb
  refine (rbegin_c H3.out.ref kind round at_).mono ?_
  rintro _ w4 ⟨rfl, hE4, f4, hst⟩
  have f4G : Frm G w3 w4 := f4.mono fun k _ e => (show k = I.rb from e) ▸ hGr
  have M4 := Lib.hid (H3.out.refe hE4 (by split <;> exact ⟨rfl, rfl⟩) f4G (Grow.refl _ _ _))
  have s4 : w4.cell? ⟨I.bb, 1, none⟩ = some (.pointer (some ⟨I.rb, 0, none⟩)) ∧ w4.cell? ⟨w.heap.size, 1, none⟩ = some (.int .i64 kind) ∧ w4.cell? ⟨w.heap.size, 2, none⟩ = some (.int .u64 round) ∧ w4.cell? ⟨w.heap.size, 3, none⟩ = some (.int .i64 at_) :=
    ⟨f4G.cell_some s1.1 fun h => (H3.out.fs _ (.inr h)).1 rfl, f4G.cell_some s1.2.1 fun h => hwP (H3.out.p _ (.inr (.inl h))), f4G.cell_some s1.2.2.1 fun h => hwP (H3.out.p _ (.inr (.inl h))), f4G.cell_some s1.2.2.2 fun h => hwP (H3.out.p _ (.inr (.inl h)))⟩
  have B4 := Lib.hid (B3.out.frm f4G fun h => hwP (H3.out.p _ (.inr (.inl h))))
  have F4 := Lib.hid ((F3.out.any (S := P)).trans' (f4G.mono fun k _ h => H3.out.p k (.inr (.inl h))))
  have HST := Lib.hid hst
  have ws4 := f4.size
  have ws3 := F3.out.size
  clear hE4 f4 f4G hst s1 B3
  try dsimp only
  refine hK.out _ _ s4 (fun hHeld => ?_)
  clear hK K
  try simp only [Act.put, List.setIfInBounds_toArray, List.set_cons_zero, List.set_cons_succ]
  refine takeC (i := 11) (.int .i64 (begErr t kind round)) rfl (by kernel_rfl) (by kernel_rfl) (by kernel_rfl) (fun _ _ _ h => h) (Or.inl ⟨by rfl, fun w hw => by go_simp⟩) s4 ?_
  try simp only [Act.put, List.setIfInBounds_toArray, List.set_cons_zero, List.set_cons_succ]
  refine wpAnyH_done (by kernel_rfl) ?_ _
  clear s4 hHeld
  by_cases e0 : begErr t kind round = 0
  · have RO : Hid (Rel (Go.Proofs.Ytjnoddbhfcpniaa.opened s kind round at_ (t.size kind)) (begun t kind round at_)) := Lib.hid (HR.out.opened kind round at_)
    have RBO : Hid (RB (begun t kind round at_) B) := Lib.hid (HB.out.begun e0)
    rw [if_pos e0] at M4
    rw [e0]
    have a3 := M4.out.both.cell 3
    have z3 := M4.out.both.frozen 3
    simp at a3
    have MW := Lib.hid (M4.out.want (wrap64 (m + 1)))
    have FW : Hid (Frm P w (w4.setCell ⟨I.bb, 3, none⟩ (.int .i64 (wrap64 (m + 1))))) := Lib.hid (F4.out.setCell (a := ⟨I.bb, 3, none⟩) (.inl (H3.out.p _ (by simp))) _)
    have BW : Hid (Blk (w4.setCell ⟨I.bb, 3, none⟩ (.int .i64 (wrap64 (m + 1)))) w.heap.size 68 #[.int .i64 1, .int .i64 kind, .int .u64 round, .int .i64 at_, .int .i64 client, .slice A data.length c, .slice Ar rows.length cr]) := Lib.hid (B4.out.far (p := ⟨I.bb, 3, none⟩) (fun e => hwP (H3.out.p _ (by simp [show w.heap.size = I.bb from e]))) _)
    have QO : Hid (∀ k, More P w3 w4 k → More P w (w4.setCell ⟨I.bb, 3, none⟩ (.int .i64 (wrap64 (m + 1)))) k) := Lib.hid fun k hk => by
      rcases hk with hk | hk
      · exact .inl hk
      · refine .inr ⟨by omega, ?_⟩
        simp [World.setCell]; exact hk.2
    have MD0 := H3
    go_upto_region 6 with fail
    generalize w4.setCell ⟨I.bb, 3, none⟩ (.int .i64 (wrap64 (m + 1))) = wq at *
    clear a3 z3
    have FQ := FW
    have a0 := MW.out.both.cell 0
    have a2 := MW.out.both.cell 2
    have a3 := MW.out.both.cell 3
    have d1 := BW.out.cell 1
    have d2 := BW.out.cell 2
    have d3 := BW.out.cell 3
    simp at a0 a2 a3 d1 d2 d3
    have s1 : wq.drew.cell? ⟨I.bb, 0, none⟩ = some (.pointer (some ⟨I.eb, 0, none⟩)) ∧ wq.drew.cell? ⟨w.heap.size, 1, none⟩ = some (.int .i64 kind) ∧ wq.drew.cell? ⟨w.heap.size, 2, none⟩ = some (.int .u64 round) ∧ wq.drew.cell? ⟨w.heap.size, 3, none⟩ = some (.int .i64 at_) ∧ wq.drew.cell? ⟨I.bb, 2, none⟩ = some (.pointer (some ⟨I.ab, 0, none⟩)) ∧ wq.drew.cell? ⟨I.bb, 3, none⟩ = some (.int .i64 (wrap64 (m + 1))) := ⟨a0, d1, d2, d3, a2, a3⟩
    have MD := Lib.hid (MW.out.frm' (Frm.refl noB wq).drew)
    refine wp_region_held_drew (S := fun W => W.cell? ⟨I.bb, 0, none⟩ = some (.pointer (some ⟨I.eb, 0, none⟩)) ∧ W.cell? ⟨w.heap.size, 1, none⟩ = some (.int .i64 kind) ∧ W.cell? ⟨w.heap.size, 2, none⟩ = some (.int .u64 round) ∧ W.cell? ⟨w.heap.size, 3, none⟩ = some (.int .i64 at_) ∧ W.cell? ⟨I.bb, 2, none⟩ = some (.pointer (some ⟨I.ab, 0, none⟩)) ∧ W.cell? ⟨I.bb, 3, none⟩ = some (.int .i64 (wrap64 (m + 1)))) (by kernel_rfl) s1 (fun hHeld => ?_)
    clear a0 a2 a3 d1 d2 d3 hHeld
    have FQD := Lib.hid (FQ.out.drew)
    have sD : wq.heap.size ≤ wq.drew.heap.size := Nat.le_refl _
    generalize wq.drew = wd at *
    refine takeC (i := 0) (.pointer (some ⟨I.bb, 0, none⟩)) rfl (by kernel_rfl) (by kernel_rfl) (by kernel_rfl) (fun _ _ _ h => h) (Or.inl ⟨by rfl, fun w hw => by go_simp⟩) s1 ?_
    try simp only [Act.put, List.setIfInBounds_toArray, List.set_cons_zero, List.set_cons_succ]
    refine takeC (i := 1) (.pointer (some ⟨I.bb, 0, none⟩)) rfl (by kernel_rfl) (by kernel_rfl) (by kernel_rfl) (fun _ _ _ h => h) (Or.inl ⟨by rfl, fun w hw => by go_simp⟩) s1 ?_
    try simp only [Act.put, List.setIfInBounds_toArray, List.set_cons_zero, List.set_cons_succ]
    refine takeC (i := 2) (.pointer (some ⟨I.bb, 0, none⟩)) rfl (by kernel_rfl) (by kernel_rfl) (by kernel_rfl) (fun _ _ _ h => h) (Or.inl ⟨by rfl, fun w hw => by go_simp⟩) s1 ?_
    try simp only [Act.put, List.setIfInBounds_toArray, List.set_cons_zero, List.set_cons_succ]
    refine takeC (i := 3) (.pointer (some ⟨I.eb, 0, none⟩)) rfl (by kernel_rfl) (by kernel_rfl) (by kernel_rfl) (fun _ _ _ h => h) (Or.inl ⟨by rfl, fun w hw => by go_simp⟩) s1 ?_
    try simp only [Act.put, List.setIfInBounds_toArray, List.set_cons_zero, List.set_cons_succ]
    refine takeC (i := 4) (.pointer (some ⟨w.heap.size, 1, none⟩)) rfl (by kernel_rfl) (by kernel_rfl) (by kernel_rfl) (fun _ _ _ h => h) (Or.inl ⟨by rfl, fun w hw => by go_simp⟩) s1 ?_
    try simp only [Act.put, List.setIfInBounds_toArray, List.set_cons_zero, List.set_cons_succ]
    refine takeC (i := 5) (.int .i64 kind) rfl (by kernel_rfl) (by kernel_rfl) (by kernel_rfl) (fun _ _ _ h => h) (Or.inl ⟨by rfl, fun w hw => by go_simp⟩) s1 ?_
    try simp only [Act.put, List.setIfInBounds_toArray, List.set_cons_zero, List.set_cons_succ]
    refine takeC (i := 6) (.pointer (some ⟨w.heap.size, 2, none⟩)) rfl (by kernel_rfl) (by kernel_rfl) (by kernel_rfl) (fun _ _ _ h => h) (Or.inl ⟨by rfl, fun w hw => by go_simp⟩) s1 ?_
    try simp only [Act.put, List.setIfInBounds_toArray, List.set_cons_zero, List.set_cons_succ]
    refine takeC (i := 7) (.int .u64 round) rfl (by kernel_rfl) (by kernel_rfl) (by kernel_rfl) (fun _ _ _ h => h) (Or.inl ⟨by rfl, fun w hw => by go_simp⟩) s1 ?_
    try simp only [Act.put, List.setIfInBounds_toArray, List.set_cons_zero, List.set_cons_succ]
    refine takeC (i := 8) (.pointer (some ⟨w.heap.size, 3, none⟩)) rfl (by kernel_rfl) (by kernel_rfl) (by kernel_rfl) (fun _ _ _ h => h) (Or.inl ⟨by rfl, fun w hw => by go_simp⟩) s1 ?_
    try simp only [Act.put, List.setIfInBounds_toArray, List.set_cons_zero, List.set_cons_succ]
    refine takeC (i := 9) (.int .i64 at_) rfl (by kernel_rfl) (by kernel_rfl) (by kernel_rfl) (fun _ _ _ h => h) (Or.inl ⟨by rfl, fun w hw => by go_simp⟩) s1 ?_
    try simp only [Act.put, List.setIfInBounds_toArray, List.set_cons_zero, List.set_cons_succ]
    refine takeC (i := 11) (.int .i64 0) rfl (by kernel_rfl) (by kernel_rfl) (by kernel_rfl) (fun _ _ _ h => h) (Or.inl ⟨by rfl, fun w hw => by go_simp⟩) s1 ?_
    try simp only [Act.put, List.setIfInBounds_toArray, List.set_cons_zero, List.set_cons_succ]
    refine consC (i := 10) rfl (by kernel_rfl) (fun K hK => ?_)
    go_simp
    refine (open_c (fid := 42) (fc := #[.pointer (some ⟨I.xb, 0, none⟩), .pointer (some ⟨I.lb, 0, none⟩)]) MD.out.ent kind round at_ (t.size kind) (G := isB I.ab) (R := fun _ w' => Blk w' I.ab 70 #[.int .i64 (IntKind.i64.wrap (m + 1))]) sizes_calls (fun w0 hf0 => (MD.out.size_ kind hf0).mono fun e w' hh => hh) (fun k e hF => (MD.out.fs k (.inl hF)).2.1 e)).mono ?_
    rintro _ wo ⟨rfl, hE, hfr⟩
    rw [HR.out.opn]
    rw [HR.out.opn] at hE hfr
    rcases hfr with ⟨h0, _⟩ | ⟨_, w0, w1', g1, g2, g3, g4⟩
    · exact absurd e0 h0
    rw [if_pos e0] at hE
    have HFO : Hid (Frm (fun k => F k ∨ k = I.ab) wd wo) := Lib.hid (((g1.mono fun k _ h => .inl h).trans (g2.mono fun k _ h => (show F k ∨ k = I.ab from .inr h)) fun k _ h => h).trans' (g4.mono fun k _ h => .inl h))
    have hab := g3.frm g4 fun h => (MD.out.fs _ (.inl h)).2.1 rfl
    rw [← wrap_eq] at hab
    have MO := Lib.hid (MD.out.opened hE HFO.out hab)
    have BBN : ¬ (F I.bb ∨ I.bb = I.ab) := fun h => by
      rcases h with h | h
      · exact (MD.out.fs _ (.inl h)).1 rfl
      · exact MD.out.both.ne_ MD.out.asked (by decide) h
    have GGN : ¬ (F w.heap.size ∨ w.heap.size = I.ab) := fun h => hwP (by rcases h with h | h; exact MD0.out.p _ (.inl h); exact MD0.out.p _ (by simp [h]))
    clear hE g1 g2 g3 g4 hab
    rw [e0]
    have so : wo.cell? ⟨I.bb, 0, none⟩ = some (.pointer (some ⟨I.eb, 0, none⟩)) ∧ wo.cell? ⟨w.heap.size, 1, none⟩ = some (.int .i64 kind) ∧ wo.cell? ⟨w.heap.size, 2, none⟩ = some (.int .u64 round) ∧ wo.cell? ⟨w.heap.size, 3, none⟩ = some (.int .i64 at_) ∧ wo.cell? ⟨I.bb, 2, none⟩ = some (.pointer (some ⟨I.ab, 0, none⟩)) ∧ wo.cell? ⟨I.bb, 3, none⟩ = some (.int .i64 (wrap64 (m + 1))) := ⟨HFO.out.cell_some s1.1 BBN, HFO.out.cell_some s1.2.1 GGN, HFO.out.cell_some s1.2.2.1 GGN, HFO.out.cell_some s1.2.2.2.1 GGN, HFO.out.cell_some s1.2.2.2.2.1 BBN, HFO.out.cell_some s1.2.2.2.2.2 BBN⟩
    have an := MO.out.asked.cell 0
    simp at an
    clear s1
    try dsimp only
    refine hK.out _ _ so (fun hHeld => ?_)
    clear hK K
    try simp only [Act.put, List.setIfInBounds_toArray, List.set_cons_zero, List.set_cons_succ]
    refine takeC (i := 12) (.bool true) rfl (by kernel_rfl) (by kernel_rfl) (by kernel_rfl) (fun _ _ _ h => h) (Or.inl ⟨by rfl, fun w hw => by go_simp⟩) so ?_
    try simp only [Act.put, List.setIfInBounds_toArray, List.set_cons_zero, List.set_cons_succ]
    refine takeC (i := 13) (.bool true) rfl (by kernel_rfl) (by kernel_rfl) (by kernel_rfl) (fun _ _ _ h => h) (Or.inl ⟨by rfl, fun w hw => by go_simp⟩) so ?_
    try simp only [Act.put, List.setIfInBounds_toArray, List.set_cons_zero, List.set_cons_succ]
    refine takeC (i := 14) (.pointer (some ⟨I.bb, 0, none⟩)) rfl (by kernel_rfl) (by kernel_rfl) (by kernel_rfl) (fun _ _ _ h => h) (Or.inl ⟨by rfl, fun w hw => by go_simp⟩) so ?_
    try simp only [Act.put, List.setIfInBounds_toArray, List.set_cons_zero, List.set_cons_succ]
    refine takeC (i := 15) (.pointer (some ⟨I.bb, 0, none⟩)) rfl (by kernel_rfl) (by kernel_rfl) (by kernel_rfl) (fun _ _ _ h => h) (Or.inl ⟨by rfl, fun w hw => by go_simp⟩) so ?_
    try simp only [Act.put, List.setIfInBounds_toArray, List.set_cons_zero, List.set_cons_succ]
    refine takeC (i := 16) (.pointer (some ⟨I.bb, 2, none⟩)) rfl (by kernel_rfl) (by kernel_rfl) (by kernel_rfl) (fun _ _ _ h => h) (Or.inl ⟨by rfl, fun w hw => by go_simp⟩) so ?_
    try simp only [Act.put, List.setIfInBounds_toArray, List.set_cons_zero, List.set_cons_succ]
    refine takeC (i := 17) (.pointer (some ⟨I.ab, 0, none⟩)) rfl (by kernel_rfl) (by kernel_rfl) (by kernel_rfl) (fun _ _ _ h => h) (Or.inl ⟨by rfl, fun w hw => by go_simp⟩) so ?_
    try simp only [Act.put, List.setIfInBounds_toArray, List.set_cons_zero, List.set_cons_succ]
    refine takeC (i := 18) (.pointer (some ⟨I.ab, 0, none⟩)) rfl (by kernel_rfl) (by kernel_rfl) (by kernel_rfl) (fun _ _ _ h => h) (Or.inl ⟨by rfl, fun w hw => by go_simp⟩) so ?_
    try simp only [Act.put, List.setIfInBounds_toArray, List.set_cons_zero, List.set_cons_succ]
    refine takeC (i := 19) (.pointer (some ⟨I.ab, 0, none⟩)) rfl (by kernel_rfl) (by kernel_rfl) (by kernel_rfl) (fun _ _ _ h => h) (Or.inl ⟨by rfl, fun w hw => by go_simp⟩) so ?_
    try simp only [Act.put, List.setIfInBounds_toArray, List.set_cons_zero, List.set_cons_succ]
    refine takeC (i := 21) (.pointer (some ⟨I.bb, 0, none⟩)) rfl (by kernel_rfl) (by kernel_rfl) (by kernel_rfl) (fun _ _ _ h => h) (Or.inl ⟨by rfl, fun w hw => by go_simp⟩) so ?_
    try simp only [Act.put, List.setIfInBounds_toArray, List.set_cons_zero, List.set_cons_succ]
    refine takeC (i := 22) (.pointer (some ⟨I.bb, 0, none⟩)) rfl (by kernel_rfl) (by kernel_rfl) (by kernel_rfl) (fun _ _ _ h => h) (Or.inl ⟨by rfl, fun w hw => by go_simp⟩) so ?_
    try simp only [Act.put, List.setIfInBounds_toArray, List.set_cons_zero, List.set_cons_succ]
    refine takeC (i := 23) (.pointer (some ⟨I.bb, 3, none⟩)) rfl (by kernel_rfl) (by kernel_rfl) (by kernel_rfl) (fun _ _ _ h => h) (Or.inl ⟨by rfl, fun w hw => by go_simp⟩) so ?_
    try simp only [Act.put, List.setIfInBounds_toArray, List.set_cons_zero, List.set_cons_succ]
    refine takeC (i := 24) (.int .i64 (wrap64 (m + 1))) rfl (by kernel_rfl) (by kernel_rfl) (by kernel_rfl) (fun _ _ _ h => h) (Or.inl ⟨by rfl, fun w hw => by go_simp⟩) so ?_
    try simp only [Act.put, List.setIfInBounds_toArray, List.set_cons_zero, List.set_cons_succ]
    refine consC (i := 20) rfl (by kernel_rfl) (fun K hK => ?_)
    go_simp
    refine hK.out _ _ so (fun hHeld => ?_)
    clear hK K
    try simp only [Act.put, List.setIfInBounds_toArray, List.set_cons_zero, List.set_cons_succ]
    refine takeC (i := 25) (.bool true) rfl (by kernel_rfl) (by kernel_rfl) (by kernel_rfl) (fun _ _ _ h => h) (Or.inl ⟨by rfl, fun w hw => by go_simp⟩) so ?_
    try simp only [Act.put, List.setIfInBounds_toArray, List.set_cons_zero, List.set_cons_succ]
    refine takeC (i := 26) (.bool true) rfl (by kernel_rfl) (by kernel_rfl) (by kernel_rfl) (fun _ _ _ h => h) (Or.inl ⟨by rfl, fun w hw => by go_simp⟩) so ?_
    try simp only [Act.put, List.setIfInBounds_toArray, List.set_cons_zero, List.set_cons_succ]
    refine takeC (i := 27) (.bool true) rfl (by kernel_rfl) (by kernel_rfl) (by kernel_rfl) (fun _ _ _ h => h) (Or.inl ⟨by rfl, fun w hw => by go_simp⟩) so ?_
    try simp only [Act.put, List.setIfInBounds_toArray, List.set_cons_zero, List.set_cons_succ]
    refine wpAnyH_done (by kernel_rfl) ?_ _
    clear so an hHeld
    go_wp2_with fail
    go_ret
    have sO := HFO.out.size
    exact ⟨rfl, StepTo.fin MO.out (RO.out) (RBO.out) (FQD.out.trans' (HFO.out.mono fun k _ h => by rcases h with h | h; exact MD0.out.p _ (.inl h); exact MD0.out.p _ (by simp [h]))) (fun k hk => More.up (Nat.le_trans sD sO) k (QO.out k hk)) PL.out⟩
  · have hw := HST.out e0
    subst hw
    have MD0 := H3
    have e0' : (begErr t kind round == 0) = false := by simpa using e0
    go_upto_region 6 with fail
    have a0 := H3.out.both.cell 0
    have a2 := H3.out.both.cell 2
    have a3 := H3.out.both.cell 3
    have d1 := B4.out.cell 1
    have d2 := B4.out.cell 2
    have d3 := B4.out.cell 3
    simp at a0 a2 a3 d1 d2 d3
    have s1 : w4.drew.cell? ⟨I.bb, 0, none⟩ = some (.pointer (some ⟨I.eb, 0, none⟩)) ∧ w4.drew.cell? ⟨w.heap.size, 1, none⟩ = some (.int .i64 kind) ∧ w4.drew.cell? ⟨w.heap.size, 2, none⟩ = some (.int .u64 round) ∧ w4.drew.cell? ⟨w.heap.size, 3, none⟩ = some (.int .i64 at_) ∧ w4.drew.cell? ⟨I.bb, 2, none⟩ = some (.pointer (some ⟨I.ab, 0, none⟩)) ∧ w4.drew.cell? ⟨I.bb, 3, none⟩ = some (.int .i64 m) := ⟨a0, d1, d2, d3, a2, a3⟩
    have MD := Lib.hid (H3.out.frm' (Frm.refl noB w4).drew)
    refine wp_region_held_drew (S := fun W => W.cell? ⟨I.bb, 0, none⟩ = some (.pointer (some ⟨I.eb, 0, none⟩)) ∧ W.cell? ⟨w.heap.size, 1, none⟩ = some (.int .i64 kind) ∧ W.cell? ⟨w.heap.size, 2, none⟩ = some (.int .u64 round) ∧ W.cell? ⟨w.heap.size, 3, none⟩ = some (.int .i64 at_) ∧ W.cell? ⟨I.bb, 2, none⟩ = some (.pointer (some ⟨I.ab, 0, none⟩)) ∧ W.cell? ⟨I.bb, 3, none⟩ = some (.int .i64 m)) (by kernel_rfl) s1 (fun hHeld => ?_)
    clear a0 a2 a3 d1 d2 d3 hHeld
    have FQD := Lib.hid (F3.out.drew)
    generalize w4.drew = wd at *
    refine takeC (i := 0) (.pointer (some ⟨I.bb, 0, none⟩)) rfl (by kernel_rfl) (by kernel_rfl) (by kernel_rfl) (fun _ _ _ h => h) (Or.inl ⟨by rfl, fun w hw => by go_simp⟩) s1 ?_
    try simp only [Act.put, List.setIfInBounds_toArray, List.set_cons_zero, List.set_cons_succ]
    refine takeC (i := 1) (.pointer (some ⟨I.bb, 0, none⟩)) rfl (by kernel_rfl) (by kernel_rfl) (by kernel_rfl) (fun _ _ _ h => h) (Or.inl ⟨by rfl, fun w hw => by go_simp⟩) s1 ?_
    try simp only [Act.put, List.setIfInBounds_toArray, List.set_cons_zero, List.set_cons_succ]
    refine takeC (i := 2) (.pointer (some ⟨I.bb, 0, none⟩)) rfl (by kernel_rfl) (by kernel_rfl) (by kernel_rfl) (fun _ _ _ h => h) (Or.inl ⟨by rfl, fun w hw => by go_simp⟩) s1 ?_
    try simp only [Act.put, List.setIfInBounds_toArray, List.set_cons_zero, List.set_cons_succ]
    refine takeC (i := 3) (.pointer (some ⟨I.eb, 0, none⟩)) rfl (by kernel_rfl) (by kernel_rfl) (by kernel_rfl) (fun _ _ _ h => h) (Or.inl ⟨by rfl, fun w hw => by go_simp⟩) s1 ?_
    try simp only [Act.put, List.setIfInBounds_toArray, List.set_cons_zero, List.set_cons_succ]
    refine takeC (i := 4) (.pointer (some ⟨w.heap.size, 1, none⟩)) rfl (by kernel_rfl) (by kernel_rfl) (by kernel_rfl) (fun _ _ _ h => h) (Or.inl ⟨by rfl, fun w hw => by go_simp⟩) s1 ?_
    try simp only [Act.put, List.setIfInBounds_toArray, List.set_cons_zero, List.set_cons_succ]
    refine takeC (i := 5) (.int .i64 kind) rfl (by kernel_rfl) (by kernel_rfl) (by kernel_rfl) (fun _ _ _ h => h) (Or.inl ⟨by rfl, fun w hw => by go_simp⟩) s1 ?_
    try simp only [Act.put, List.setIfInBounds_toArray, List.set_cons_zero, List.set_cons_succ]
    refine takeC (i := 6) (.pointer (some ⟨w.heap.size, 2, none⟩)) rfl (by kernel_rfl) (by kernel_rfl) (by kernel_rfl) (fun _ _ _ h => h) (Or.inl ⟨by rfl, fun w hw => by go_simp⟩) s1 ?_
    try simp only [Act.put, List.setIfInBounds_toArray, List.set_cons_zero, List.set_cons_succ]
    refine takeC (i := 7) (.int .u64 round) rfl (by kernel_rfl) (by kernel_rfl) (by kernel_rfl) (fun _ _ _ h => h) (Or.inl ⟨by rfl, fun w hw => by go_simp⟩) s1 ?_
    try simp only [Act.put, List.setIfInBounds_toArray, List.set_cons_zero, List.set_cons_succ]
    refine takeC (i := 8) (.pointer (some ⟨w.heap.size, 3, none⟩)) rfl (by kernel_rfl) (by kernel_rfl) (by kernel_rfl) (fun _ _ _ h => h) (Or.inl ⟨by rfl, fun w hw => by go_simp⟩) s1 ?_
    try simp only [Act.put, List.setIfInBounds_toArray, List.set_cons_zero, List.set_cons_succ]
    refine takeC (i := 9) (.int .i64 at_) rfl (by kernel_rfl) (by kernel_rfl) (by kernel_rfl) (fun _ _ _ h => h) (Or.inl ⟨by rfl, fun w hw => by go_simp⟩) s1 ?_
    try simp only [Act.put, List.setIfInBounds_toArray, List.set_cons_zero, List.set_cons_succ]
    refine takeC (i := 11) (.int .i64 (begErr t kind round)) rfl (by kernel_rfl) (by kernel_rfl) (by kernel_rfl) (fun _ _ _ h => h) (Or.inl ⟨by rfl, fun w hw => by go_simp⟩) s1 ?_
    try simp only [Act.put, List.setIfInBounds_toArray, List.set_cons_zero, List.set_cons_succ]
    refine consC (i := 10) rfl (by kernel_rfl) (fun K hK => ?_)
    go_simp
    refine (open_c (fid := 42) (fc := #[.pointer (some ⟨I.xb, 0, none⟩), .pointer (some ⟨I.lb, 0, none⟩)]) MD.out.ent kind round at_ (t.size kind) (G := isB I.ab) (R := fun _ w' => Blk w' I.ab 70 #[.int .i64 (IntKind.i64.wrap (m + 1))]) sizes_calls (fun w0 hf0 => (MD.out.size_ kind hf0).mono fun e w' hh => hh) (fun k e hF => (MD.out.fs k (.inl hF)).2.1 e)).mono ?_
    rintro _ wo ⟨rfl, hE, hfr⟩
    rw [HR.out.opn]
    rw [HR.out.opn] at hE hfr
    have hfo : Frm noB wd wo := by
      rcases hfr with ⟨_, h⟩ | ⟨h0, _⟩
      · exact h
      · exact absurd h0 e0
    clear hfr
    rw [if_neg e0] at hE
    have HFO : Hid (Frm noB wd wo) := Lib.hid hfo
    have MO : Hid (PrM wo I F G P s t m m) := Lib.hid (MD.out.frm' hfo)
    have BBN : ¬ noB I.bb := fun h => h
    have GGN : ¬ noB w.heap.size := fun h => h
    clear hE hfo
    generalize begErr t kind round = er at *
    have so : wo.cell? ⟨I.bb, 0, none⟩ = some (.pointer (some ⟨I.eb, 0, none⟩)) ∧ wo.cell? ⟨w.heap.size, 1, none⟩ = some (.int .i64 kind) ∧ wo.cell? ⟨w.heap.size, 2, none⟩ = some (.int .u64 round) ∧ wo.cell? ⟨w.heap.size, 3, none⟩ = some (.int .i64 at_) ∧ wo.cell? ⟨I.bb, 2, none⟩ = some (.pointer (some ⟨I.ab, 0, none⟩)) ∧ wo.cell? ⟨I.bb, 3, none⟩ = some (.int .i64 m) := ⟨HFO.out.cell_some s1.1 BBN, HFO.out.cell_some s1.2.1 GGN, HFO.out.cell_some s1.2.2.1 GGN, HFO.out.cell_some s1.2.2.2.1 GGN, HFO.out.cell_some s1.2.2.2.2.1 BBN, HFO.out.cell_some s1.2.2.2.2.2 BBN⟩
    have an := MO.out.asked.cell 0
    simp at an
    clear s1
    try dsimp only
    refine hK.out _ _ so (fun hHeld => ?_)
    clear hK K
    try simp only [Act.put, List.setIfInBounds_toArray, List.set_cons_zero, List.set_cons_succ]
    refine takeC (i := 12) (.bool true) rfl (by kernel_rfl) (by kernel_rfl) (by kernel_rfl) (fun _ _ _ h => h) (Or.inl ⟨by rfl, fun w hw => by go_simp⟩) so ?_
    try simp only [Act.put, List.setIfInBounds_toArray, List.set_cons_zero, List.set_cons_succ]
    refine takeC (i := 13) (.bool true) rfl (by kernel_rfl) (by kernel_rfl) (by kernel_rfl) (fun _ _ _ h => h) (Or.inl ⟨by rfl, fun w hw => by go_simp⟩) so ?_
    try simp only [Act.put, List.setIfInBounds_toArray, List.set_cons_zero, List.set_cons_succ]
    refine takeC (i := 14) (.pointer (some ⟨I.bb, 0, none⟩)) rfl (by kernel_rfl) (by kernel_rfl) (by kernel_rfl) (fun _ _ _ h => h) (Or.inl ⟨by rfl, fun w hw => by go_simp⟩) so ?_
    try simp only [Act.put, List.setIfInBounds_toArray, List.set_cons_zero, List.set_cons_succ]
    refine takeC (i := 15) (.pointer (some ⟨I.bb, 0, none⟩)) rfl (by kernel_rfl) (by kernel_rfl) (by kernel_rfl) (fun _ _ _ h => h) (Or.inl ⟨by rfl, fun w hw => by go_simp⟩) so ?_
    try simp only [Act.put, List.setIfInBounds_toArray, List.set_cons_zero, List.set_cons_succ]
    refine takeC (i := 16) (.pointer (some ⟨I.bb, 2, none⟩)) rfl (by kernel_rfl) (by kernel_rfl) (by kernel_rfl) (fun _ _ _ h => h) (Or.inl ⟨by rfl, fun w hw => by go_simp⟩) so ?_
    try simp only [Act.put, List.setIfInBounds_toArray, List.set_cons_zero, List.set_cons_succ]
    refine takeC (i := 17) (.pointer (some ⟨I.ab, 0, none⟩)) rfl (by kernel_rfl) (by kernel_rfl) (by kernel_rfl) (fun _ _ _ h => h) (Or.inl ⟨by rfl, fun w hw => by go_simp⟩) so ?_
    try simp only [Act.put, List.setIfInBounds_toArray, List.set_cons_zero, List.set_cons_succ]
    refine takeC (i := 18) (.pointer (some ⟨I.ab, 0, none⟩)) rfl (by kernel_rfl) (by kernel_rfl) (by kernel_rfl) (fun _ _ _ h => h) (Or.inl ⟨by rfl, fun w hw => by go_simp⟩) so ?_
    try simp only [Act.put, List.setIfInBounds_toArray, List.set_cons_zero, List.set_cons_succ]
    refine takeC (i := 19) (.pointer (some ⟨I.ab, 0, none⟩)) rfl (by kernel_rfl) (by kernel_rfl) (by kernel_rfl) (fun _ _ _ h => h) (Or.inl ⟨by rfl, fun w hw => by go_simp⟩) so ?_
    try simp only [Act.put, List.setIfInBounds_toArray, List.set_cons_zero, List.set_cons_succ]
    refine takeC (i := 21) (.pointer (some ⟨I.bb, 0, none⟩)) rfl (by kernel_rfl) (by kernel_rfl) (by kernel_rfl) (fun _ _ _ h => h) (Or.inl ⟨by rfl, fun w hw => by go_simp⟩) so ?_
    try simp only [Act.put, List.setIfInBounds_toArray, List.set_cons_zero, List.set_cons_succ]
    refine takeC (i := 22) (.pointer (some ⟨I.bb, 0, none⟩)) rfl (by kernel_rfl) (by kernel_rfl) (by kernel_rfl) (fun _ _ _ h => h) (Or.inl ⟨by rfl, fun w hw => by go_simp⟩) so ?_
    try simp only [Act.put, List.setIfInBounds_toArray, List.set_cons_zero, List.set_cons_succ]
    refine takeC (i := 23) (.pointer (some ⟨I.bb, 3, none⟩)) rfl (by kernel_rfl) (by kernel_rfl) (by kernel_rfl) (fun _ _ _ h => h) (Or.inl ⟨by rfl, fun w hw => by go_simp⟩) so ?_
    try simp only [Act.put, List.setIfInBounds_toArray, List.set_cons_zero, List.set_cons_succ]
    refine takeC (i := 24) (.int .i64 m) rfl (by kernel_rfl) (by kernel_rfl) (by kernel_rfl) (fun _ _ _ h => h) (Or.inl ⟨by rfl, fun w hw => by go_simp⟩) so ?_
    try simp only [Act.put, List.setIfInBounds_toArray, List.set_cons_zero, List.set_cons_succ]
    refine consC (i := 20) rfl (by kernel_rfl) (fun K hK => ?_)
    go_simp
    refine hK.out _ _ so (fun hHeld => ?_)
    clear hK K
    try simp only [Act.put, List.setIfInBounds_toArray, List.set_cons_zero, List.set_cons_succ]
    refine takeC (i := 25) (.bool true) rfl (by kernel_rfl) (by kernel_rfl) (by kernel_rfl) (fun _ _ _ h => h) (Or.inl ⟨by rfl, fun w hw => by go_simp⟩) so ?_
    try simp only [Act.put, List.setIfInBounds_toArray, List.set_cons_zero, List.set_cons_succ]
    refine takeC (i := 26) (.bool true) rfl (by kernel_rfl) (by kernel_rfl) (by kernel_rfl) (fun _ _ _ h => h) (Or.inl ⟨by rfl, fun w hw => by go_simp⟩) so ?_
    try simp only [Act.put, List.setIfInBounds_toArray, List.set_cons_zero, List.set_cons_succ]
    refine takeC (i := 27) (.bool true) rfl (by kernel_rfl) (by kernel_rfl) (by kernel_rfl) (fun _ _ _ h => h) (Or.inl ⟨by rfl, fun w hw => by go_simp⟩) so ?_
    try simp only [Act.put, List.setIfInBounds_toArray, List.set_cons_zero, List.set_cons_succ]
    refine wpAnyH_done (by kernel_rfl) ?_ _
    clear so an hHeld
    go_wp2_with fail
    go_ret
    exact ⟨rfl, StepTo.stay MO.out HR.out HB.out ((FQD.out.any).trans' HFO.out.any) PL.out⟩
end
end Go.Proofs.Ytjnoddbhfcpniaa
