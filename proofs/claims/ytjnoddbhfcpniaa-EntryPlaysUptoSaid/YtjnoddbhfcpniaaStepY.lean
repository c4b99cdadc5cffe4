/-
  EntryPlays: the law's step, Tick, where the round is closed.
-/
import Derived.Test.YtjnoddbhfcpniaaStepY0
import Derived.Deep.DeepCutAuto
namespace Go.Proofs.Ytjnoddbhfcpniaa
open Go.RowKit
open Go.BigFrame
set_option linter.unusedVariables false
set_option linter.unusedSimpArgs false

section
variable {w : World} {I : Ids} {F G P : Nat → Prop} {s : ES} {t : RS} {m : Int} {B : Nat}
set_option maxRecDepth 100000 in
set_option maxHeartbeats 400000 in
theorem step_tick_yes (h : PrM w I F G P s t m m) (hr : Rel s t) (hb : RB t B) (hBB : B ≤ 1048576) (kind round at_ client : Int) (A Ar : Option Addr) (data : List UInt8) (rows : List (List UInt8)) (c cr : Nat) (hD : Rd w A (data.map bv)) (hA : data ≠ [] → ∀ k, aB A k → ¬ P k) (hL : data.length ≤ B) (hR : RdRows w Ar rows (fun k => ¬ P k)) (hRl : ∀ l ∈ rows, l.length ≤ B) (hRn : rows.length ≤ B) (hyes : s.phase = 1 ∧ s.til ≤ at_) :
    Calls Try.prog 28 #[.pointer (some ⟨I.bb, 0, none⟩), .agg #[.int .i64 3, .int .i64 kind, .int .u64 round, .int .i64 at_, .int .i64 client, .slice A data.length c, .slice Ar rows.length cr]] w fun e w' => e = .returned (.bool true) ∧ StepTo w I P B w' := by
  have f1 : Frm noB w (w.alloc (.cells #[.int .i64 3, .int .i64 kind, .int .u64 round, .int .i64 at_, .int .i64 client, .slice A data.length c, .slice Ar rows.length cr] 68)) := (Frm.refl _ _).alloc _
  have b1 : Blk (w.alloc (.cells #[.int .i64 3, .int .i64 kind, .int .u64 round, .int .i64 at_, .int .i64 client, .slice A data.length c, .slice Ar rows.length cr] 68)) w.heap.size 68 #[.int .i64 3, .int .i64 kind, .int .u64 round, .int .i64 at_, .int .i64 client, .slice A data.length c, .slice Ar rows.length cr] := Blk.new _ _ _
  have hsz1 : w.heap.size < (w.alloc (.cells #[.int .i64 3, .int .i64 kind, .int .u64 round, .int .i64 at_, .int .i64 client, .slice A data.length c, .slice Ar rows.length cr] 68)).heap.size := b1.lt
  have H1 := Lib.hid (h.frm' f1)
  have D1 := Lib.hid (hD.frm' f1)
  have W1 := Lib.hid (hR.frm' f1)
  have B1 := Lib.hid b1
  have F1 := Lib.hid f1
  have PL := Lib.hid h.pl
  have HR := Lib.hid hr
  have HB := Lib.hid hb
  have HAP := Lib.hid hA
  have HRL := Lib.hid hRl
  clear h hD f1 b1 hr hb hA hR hRl
  go_enter Try.func28, Try.ntmps28
  go_upto_region 1 with fail
  generalize w.alloc (.cells #[.int .i64 3, .int .i64 kind, .int .u64 round, .int .i64 at_, .int .i64 client, .slice A data.length c, .slice Ar rows.length cr] 68) = w1 at *
  have c0 := B1.out.cell 0
  simp at c0
  obtain ⟨e1, e2, e3, _⟩ := HR.out.kd hyes.1
  have hyes2 : t.op = true ∧ t.til ≤ at_ := ⟨HR.out.ph1.2 hyes.1, by rw [← e3]; exact hyes.2⟩
  have EQS := Lib.hid (And.intro e1 (And.intro e2 (HR.out.who_len (.inl hyes.1))))
  clear e1 e2 e3
  go_upto_region 10 with fail
  clear c0
  go_cut [6, 7, 8] (fun v6 v7 v8 wx => ∃ gT F' Aw cw Ax cx xs, v6 = .pointer (some ⟨gT, 0, none⟩) ∧ v7 = .bool true ∧ v8 = .int .i64 0 ∧ Blk wx gT 39 #[.int .i64 t.kind, .int .u64 t.round, .slice Aw t.tk.length cw, .slice Ax t.tk.length cx] ∧ TickY wx w1 I F F' G P s t m Aw Ax cw cx xs)
  case first =>
    have a0 := H1.out.both.cell 0
    have d3 := B1.out.cell 3
    simp at a0 d3
    have s1 : w1.drew.cell? ⟨I.bb, 0, none⟩ = some (.pointer (some ⟨I.eb, 0, none⟩)) ∧ w1.drew.cell? ⟨w.heap.size, 3, none⟩ = some (.int .i64 at_) := ⟨a0, d3⟩
    have HD := Lib.hid (H1.out.frm' (Frm.refl noB w1).drew)
    have FD : Hid (Frm noB w1 w1.drew) := Lib.hid (Frm.refl noB w1).drew
    refine wp_region_held_drew (S := fun W => W.cell? ⟨I.bb, 0, none⟩ = some (.pointer (some ⟨I.eb, 0, none⟩)) ∧ W.cell? ⟨w.heap.size, 3, none⟩ = some (.int .i64 at_)) (by kernel_rfl) s1 (fun hHeld => ?_)
    clear a0 d3 hHeld
    generalize w1.drew = wd at *
    refine takeC (i := 0) (.pointer (some ⟨I.bb, 0, none⟩)) rfl (by kernel_rfl) (by kernel_rfl) (by kernel_rfl) (fun _ _ _ h => h) (Or.inl ⟨by rfl, fun w hw => by go_simp⟩) s1 ?_
    try simp only [Act.put, List.setIfInBounds_toArray, List.set_cons_zero, List.set_cons_succ]
    refine takeC (i := 1) (.pointer (some ⟨I.bb, 0, none⟩)) rfl (by kernel_rfl) (by kernel_rfl) (by kernel_rfl) (fun _ _ _ h => h) (Or.inl ⟨by rfl, fun w hw => by go_simp⟩) s1 ?_
    try simp only [Act.put, List.setIfInBounds_toArray, List.set_cons_zero, List.set_cons_succ]
    refine takeC (i := 2) (.pointer (some ⟨I.bb, 0, none⟩)) rfl (by kernel_rfl) (by kernel_rfl) (by kernel_rfl) (fun _ _ _ h => h) (Or.inl ⟨by rfl, fun w hw => by go_simp⟩) s1 ?_
    try simp only [Act.put, List.setIfInBounds_toArray, List.set_cons_zero, List.set_cons_succ]
    refine takeC (i := 3) (.pointer (some ⟨I.eb, 0, none⟩)) rfl (by kernel_rfl) (by kernel_rfl) (by kernel_rfl) (fun _ _ _ h => h) (Or.inl ⟨by rfl, fun w hw => by go_simp⟩) s1 ?_
    try simp only [Act.put, List.setIfInBounds_toArray, List.set_cons_zero, List.set_cons_succ]
    refine takeC (i := 4) (.pointer (some ⟨w.heap.size, 3, none⟩)) rfl (by kernel_rfl) (by kernel_rfl) (by kernel_rfl) (fun _ _ _ h => h) (Or.inl ⟨by rfl, fun w hw => by go_simp⟩) s1 ?_
    try simp only [Act.put, List.setIfInBounds_toArray, List.set_cons_zero, List.set_cons_succ]
    refine takeC (i := 5) (.int .i64 at_) rfl (by kernel_rfl) (by kernel_rfl) (by kernel_rfl) (fun _ _ _ h => h) (Or.inl ⟨by rfl, fun w hw => by go_simp⟩) s1 ?_
    try simp only [Act.put, List.setIfInBounds_toArray, List.set_cons_zero, List.set_cons_succ]
    refine wpAnyH_ready (rs := [6, 11]) (by kernel_rfl) (by simp) ?_
    refine AllReadyH.cons rfl (fun K hK => ?_) (AllReadyH.cons rfl (fun K hK => ?_) AllReadyH.nil)
    · go_simp
      refine (tick_c HD.out.ent at_).mono ?_
      rintro _ w2 ht
      obtain ⟨_, F', wo, xv, xs, rfl, hE, hBO, f2⟩ := ht.resolve_left fun h => by have := h.1; omega
      obtain ⟨Aw, cw, rfl, _⟩ := own_slice hBO.wo_
      obtain ⟨Ax, cx, rfl, _⟩ := own_slice hBO.row
      have TY := Lib.hid (TickY.start HD.out HR.out hyes.1 hE hBO f2)
      rw [EQS.out.1, EQS.out.2.1, EQS.out.2.2, show xs.length = t.tk.length by have := TY.out.box.1; simpa using this]
      have s2 : w2.cell? ⟨I.bb, 0, none⟩ = some (.pointer (some ⟨I.eb, 0, none⟩)) ∧ w2.cell? ⟨w.heap.size, 3, none⟩ = some (.int .i64 at_) := ⟨f2.cell_some s1.1 fun h => (HD.out.fs _ (.inl h)).1 rfl, f2.cell_some s1.2 fun h => by have h1 : P w.heap.size := HD.out.p _ (.inl h); have := PL.out _ h1; omega⟩
      clear ht hE hBO
      have szd := FD.out.size
      have F2 := Lib.hid f2
      clear f2 s1
      try dsimp only
      refine hK.out _ _ s2 (fun hHeld => ?_)
      clear hK K
      try simp only [Act.put, List.setIfInBounds_toArray, List.set_cons_zero, List.set_cons_succ]
      refine takeC (i := 7) (.tuple #[.agg #[.int .i64 t.kind, .int .u64 t.round, .slice Aw t.tk.length cw, .slice Ax t.tk.length cx], .bool true, .int .i64 0]) rfl (by kernel_rfl) (by kernel_rfl) (by kernel_rfl) (fun _ _ _ h => h) (Or.inl ⟨by rfl, fun w hw => by go_simp⟩) s2 ?_
      try simp only [Act.put, List.setIfInBounds_toArray, List.set_cons_zero, List.set_cons_succ]
      refine takeC (i := 8) (.agg #[.int .i64 t.kind, .int .u64 t.round, .slice Aw t.tk.length cw, .slice Ax t.tk.length cx]) rfl (by kernel_rfl) (by kernel_rfl) (by kernel_rfl) (fun _ _ _ h => h) (Or.inl ⟨by rfl, fun w hw => by go_simp⟩) s2 ?_
      try simp only [Act.put, List.setIfInBounds_toArray, List.set_cons_zero, List.set_cons_succ]
      refine takeC (i := 9) (.bool true) rfl (by kernel_rfl) (by kernel_rfl) (by kernel_rfl) (fun _ _ _ h => h) (Or.inl ⟨by rfl, fun w hw => by go_simp⟩) s2 ?_
      try simp only [Act.put, List.setIfInBounds_toArray, List.set_cons_zero, List.set_cons_succ]
      refine takeC (i := 10) (.int .i64 0) rfl (by kernel_rfl) (by kernel_rfl) (by kernel_rfl) (fun _ _ _ h => h) (Or.inl ⟨by rfl, fun w hw => by go_simp⟩) s2 ?_
      try simp only [Act.put, List.setIfInBounds_toArray, List.set_cons_zero, List.set_cons_succ]
      refine consC (i := 11) rfl (by kernel_rfl) (fun K hK => ?_)
      go_simp
      have fa : Frm noB w2 (w2.alloc (.cells #[.int .i64 0, .int .u64 0, .slice none 0 0, .slice none 0 0] 39)) := (Frm.refl _ _).alloc _
      have na : Blk (w2.alloc (.cells #[.int .i64 0, .int .u64 0, .slice none 0 0, .slice none 0 0] 39)) w2.heap.size 39 #[.int .i64 0, .int .u64 0, .slice none 0 0, .slice none 0 0] := Blk.new _ _ _
      have sa : (w2.alloc (.cells #[.int .i64 0, .int .u64 0, .slice none 0 0, .slice none 0 0] 39)).cell? ⟨I.bb, 0, none⟩ = some (.pointer (some ⟨I.eb, 0, none⟩)) ∧ (w2.alloc (.cells #[.int .i64 0, .int .u64 0, .slice none 0 0, .slice none 0 0] 39)).cell? ⟨w.heap.size, 3, none⟩ = some (.int .i64 at_) := ⟨fa.cell_some s2.1 (fun h => h), fa.cell_some s2.2 (fun h => h)⟩
      clear s2
      generalize w2.alloc (.cells #[.int .i64 0, .int .u64 0, .slice none 0 0, .slice none 0 0] 39) = w3 at *
      refine hK.out _ _ sa (fun hHeld => ?_)
      clear hK K
      try simp only [Act.put, List.setIfInBounds_toArray, List.set_cons_zero, List.set_cons_succ]
      have y0 := na.cell 0
      have y1 := na.cell 1
      have y2 := na.cell 2
      have y3 := na.cell 3
      have z0 := na.frozen 0
      have z1 := na.frozen 1
      have z2 := na.frozen 2
      have z3 := na.frozen 3
      simp at y0 y1 y2 y3
      refine consC (i := 12) rfl (by kernel_rfl) (fun K hK => ?_)
      go_simp
      have fz : Frm (isB w2.heap.size) w3 ((((w3.setCell ⟨w2.heap.size, 0, none⟩ (.int .i64 t.kind)).setCell ⟨w2.heap.size, 1, none⟩ (.int .u64 t.round)).setCell ⟨w2.heap.size, 2, none⟩ (.slice Aw t.tk.length cw)).setCell ⟨w2.heap.size, 3, none⟩ (.slice Ax t.tk.length cx)) := ((((Frm.refl (isB w2.heap.size) w3).setCell (a := ⟨w2.heap.size, 0, none⟩) (.inl (show isB w2.heap.size w2.heap.size from rfl)) _).setCell (a := ⟨w2.heap.size, 1, none⟩) (.inl (show isB w2.heap.size w2.heap.size from rfl)) _).setCell (a := ⟨w2.heap.size, 2, none⟩) (.inl (show isB w2.heap.size w2.heap.size from rfl)) _).setCell (a := ⟨w2.heap.size, 3, none⟩) (.inl (show isB w2.heap.size w2.heap.size from rfl)) _
      have nz := (((na.set_ 0 (.int .i64 t.kind)).set_ 1 (.int .u64 t.round)).set_ 2 (.slice Aw t.tk.length cw)).set_ 3 (.slice Ax t.tk.length cx)
      simp only [List.setIfInBounds_toArray, List.set_cons_succ, List.set_cons_zero] at nz
      clear y0 y1 y2 y3 z0 z1 z2 z3
      have s4 : ((((w3.setCell ⟨w2.heap.size, 0, none⟩ (.int .i64 t.kind)).setCell ⟨w2.heap.size, 1, none⟩ (.int .u64 t.round)).setCell ⟨w2.heap.size, 2, none⟩ (.slice Aw t.tk.length cw)).setCell ⟨w2.heap.size, 3, none⟩ (.slice Ax t.tk.length cx)).cell? ⟨I.bb, 0, none⟩ = some (.pointer (some ⟨I.eb, 0, none⟩)) ∧ ((((w3.setCell ⟨w2.heap.size, 0, none⟩ (.int .i64 t.kind)).setCell ⟨w2.heap.size, 1, none⟩ (.int .u64 t.round)).setCell ⟨w2.heap.size, 2, none⟩ (.slice Aw t.tk.length cw)).setCell ⟨w2.heap.size, 3, none⟩ (.slice Ax t.tk.length cx)).cell? ⟨w.heap.size, 3, none⟩ = some (.int .i64 at_) := ⟨fz.cell_some sa.1 (fun e => by have := HD.out.pl _ (HD.out.p I.bb (by simp)); have : I.bb = w2.heap.size := e; have := F2.out.size; omega), fz.cell_some sa.2 (fun e => by have : w.heap.size = w2.heap.size := e; have := F2.out.size; omega)⟩
      have FA := Lib.hid fa
      have FZ := Lib.hid fz
      have NN := Lib.hid nz
      have hgl : wd.heap.size ≤ w2.heap.size := F2.out.size
      have TZ := Lib.hid (((TY.out.more_ fa HD.out.pl).setg na fz hgl HD.out.pl).pre_ FD.out H1.out.pl)
      clear fz nz na fa sa
      generalize (((w3.setCell ⟨w2.heap.size, 0, none⟩ (.int .i64 t.kind)).setCell ⟨w2.heap.size, 1, none⟩ (.int .u64 t.round)).setCell ⟨w2.heap.size, 2, none⟩ (.slice Aw t.tk.length cw)).setCell ⟨w2.heap.size, 3, none⟩ (.slice Ax t.tk.length cx) = w5 at *
      refine hK.out _ _ s4 (fun hHeld => ?_)
      clear hK K
      try simp only [Act.put, List.setIfInBounds_toArray, List.set_cons_zero, List.set_cons_succ]
      refine takeC (i := 13) (.bool true) rfl (by kernel_rfl) (by kernel_rfl) (by kernel_rfl) (fun _ _ _ h => h) (Or.inl ⟨by rfl, fun w hw => by go_simp⟩) s4 ?_
      try simp only [Act.put, List.setIfInBounds_toArray, List.set_cons_zero, List.set_cons_succ]
      refine takeC (i := 14) (.int .i64 0) rfl (by kernel_rfl) (by kernel_rfl) (by kernel_rfl) (fun _ _ _ h => h) (Or.inl ⟨by rfl, fun w hw => by go_simp⟩) s4 ?_
      try simp only [Act.put, List.setIfInBounds_toArray, List.set_cons_zero, List.set_cons_succ]
      refine wpAnyH_done (by kernel_rfl) ?_ _
      clear s4 hHeld
      try go_wp2_with fail
      all_goals go_meet
      all_goals exact ⟨_, F', Aw, cw, Ax, cx, xs, rfl, rfl, rfl, NN.out, TZ.out⟩
    · go_simp
      have fa : Frm noB wd (wd.alloc (.cells #[.int .i64 0, .int .u64 0, .slice none 0 0, .slice none 0 0] 39)) := (Frm.refl _ _).alloc _
      have na : Blk (wd.alloc (.cells #[.int .i64 0, .int .u64 0, .slice none 0 0, .slice none 0 0] 39)) wd.heap.size 39 #[.int .i64 0, .int .u64 0, .slice none 0 0, .slice none 0 0] := Blk.new _ _ _
      have HA := Lib.hid (HD.out.frm' fa)
      have s0 : (wd.alloc (.cells #[.int .i64 0, .int .u64 0, .slice none 0 0, .slice none 0 0] 39)).cell? ⟨I.bb, 0, none⟩ = some (.pointer (some ⟨I.eb, 0, none⟩)) ∧ (wd.alloc (.cells #[.int .i64 0, .int .u64 0, .slice none 0 0, .slice none 0 0] 39)).cell? ⟨w.heap.size, 3, none⟩ = some (.int .i64 at_) := ⟨fa.cell_some s1.1 (fun h => h), fa.cell_some s1.2 (fun h => h)⟩
      have szd := FD.out.size
      have hga : wd.heap.size < (wd.alloc (.cells #[.int .i64 0, .int .u64 0, .slice none 0 0, .slice none 0 0] 39)).heap.size := na.lt
      clear s1
      generalize wd.alloc (.cells #[.int .i64 0, .int .u64 0, .slice none 0 0, .slice none 0 0] 39) = wa at *
      refine hK.out _ _ s0 (fun hHeld => ?_)
      clear hK K
      try simp only [Act.put, List.setIfInBounds_toArray, List.set_cons_zero, List.set_cons_succ]
      refine consC (i := 6) rfl (by kernel_rfl) (fun K hK => ?_)
      go_simp
      refine (tick_c HA.out.ent at_).mono ?_
      rintro _ w2 ht
      obtain ⟨_, F', wo, xv, xs, rfl, hE, hBO, f2⟩ := ht.resolve_left fun h => by have := h.1; omega
      obtain ⟨Aw, cw, rfl, _⟩ := own_slice hBO.wo_
      obtain ⟨Ax, cx, rfl, _⟩ := own_slice hBO.row
      have TY := Lib.hid (TickY.start HA.out HR.out hyes.1 hE hBO f2)
      rw [EQS.out.1, EQS.out.2.1, EQS.out.2.2, show xs.length = t.tk.length by have := TY.out.box.1; simpa using this]
      have s2 : w2.cell? ⟨I.bb, 0, none⟩ = some (.pointer (some ⟨I.eb, 0, none⟩)) ∧ w2.cell? ⟨w.heap.size, 3, none⟩ = some (.int .i64 at_) := ⟨f2.cell_some s0.1 fun h => (HA.out.fs _ (.inl h)).1 rfl, f2.cell_some s0.2 fun h => by have h1 : P w.heap.size := HA.out.p _ (.inl h); have := PL.out _ h1; omega⟩
      clear ht hE hBO
      have NA := Lib.hid (na.frm f2 (fun h => by have := HD.out.pl _ (HD.out.p _ (.inl h)); omega))
      have F2 := Lib.hid f2
      have FA := Lib.hid fa
      clear f2 s0 na fa
      try dsimp only
      refine hK.out _ _ s2 (fun hHeld => ?_)
      clear hK K
      try simp only [Act.put, List.setIfInBounds_toArray, List.set_cons_zero, List.set_cons_succ]
      refine takeC (i := 7) (.tuple #[.agg #[.int .i64 t.kind, .int .u64 t.round, .slice Aw t.tk.length cw, .slice Ax t.tk.length cx], .bool true, .int .i64 0]) rfl (by kernel_rfl) (by kernel_rfl) (by kernel_rfl) (fun _ _ _ h => h) (Or.inl ⟨by rfl, fun w hw => by go_simp⟩) s2 ?_
      try simp only [Act.put, List.setIfInBounds_toArray, List.set_cons_zero, List.set_cons_succ]
      refine takeC (i := 8) (.agg #[.int .i64 t.kind, .int .u64 t.round, .slice Aw t.tk.length cw, .slice Ax t.tk.length cx]) rfl (by kernel_rfl) (by kernel_rfl) (by kernel_rfl) (fun _ _ _ h => h) (Or.inl ⟨by rfl, fun w hw => by go_simp⟩) s2 ?_
      try simp only [Act.put, List.setIfInBounds_toArray, List.set_cons_zero, List.set_cons_succ]
      refine takeC (i := 9) (.bool true) rfl (by kernel_rfl) (by kernel_rfl) (by kernel_rfl) (fun _ _ _ h => h) (Or.inl ⟨by rfl, fun w hw => by go_simp⟩) s2 ?_
      try simp only [Act.put, List.setIfInBounds_toArray, List.set_cons_zero, List.set_cons_succ]
      refine takeC (i := 10) (.int .i64 0) rfl (by kernel_rfl) (by kernel_rfl) (by kernel_rfl) (fun _ _ _ h => h) (Or.inl ⟨by rfl, fun w hw => by go_simp⟩) s2 ?_
      try simp only [Act.put, List.setIfInBounds_toArray, List.set_cons_zero, List.set_cons_succ]
      have y0 := NA.out.cell 0
      have y1 := NA.out.cell 1
      have y2 := NA.out.cell 2
      have y3 := NA.out.cell 3
      have z0 := NA.out.frozen 0
      have z1 := NA.out.frozen 1
      have z2 := NA.out.frozen 2
      have z3 := NA.out.frozen 3
      simp at y0 y1 y2 y3
      refine consC (i := 12) rfl (by kernel_rfl) (fun K hK => ?_)
      go_simp
      have fz : Frm (isB wd.heap.size) w2 ((((w2.setCell ⟨wd.heap.size, 0, none⟩ (.int .i64 t.kind)).setCell ⟨wd.heap.size, 1, none⟩ (.int .u64 t.round)).setCell ⟨wd.heap.size, 2, none⟩ (.slice Aw t.tk.length cw)).setCell ⟨wd.heap.size, 3, none⟩ (.slice Ax t.tk.length cx)) := ((((Frm.refl (isB wd.heap.size) w2).setCell (a := ⟨wd.heap.size, 0, none⟩) (.inl (show isB wd.heap.size wd.heap.size from rfl)) _).setCell (a := ⟨wd.heap.size, 1, none⟩) (.inl (show isB wd.heap.size wd.heap.size from rfl)) _).setCell (a := ⟨wd.heap.size, 2, none⟩) (.inl (show isB wd.heap.size wd.heap.size from rfl)) _).setCell (a := ⟨wd.heap.size, 3, none⟩) (.inl (show isB wd.heap.size wd.heap.size from rfl)) _
      have nz := (((NA.out.set_ 0 (.int .i64 t.kind)).set_ 1 (.int .u64 t.round)).set_ 2 (.slice Aw t.tk.length cw)).set_ 3 (.slice Ax t.tk.length cx)
      simp only [List.setIfInBounds_toArray, List.set_cons_succ, List.set_cons_zero] at nz
      clear y0 y1 y2 y3 z0 z1 z2 z3
      have s4 : ((((w2.setCell ⟨wd.heap.size, 0, none⟩ (.int .i64 t.kind)).setCell ⟨wd.heap.size, 1, none⟩ (.int .u64 t.round)).setCell ⟨wd.heap.size, 2, none⟩ (.slice Aw t.tk.length cw)).setCell ⟨wd.heap.size, 3, none⟩ (.slice Ax t.tk.length cx)).cell? ⟨I.bb, 0, none⟩ = some (.pointer (some ⟨I.eb, 0, none⟩)) ∧ ((((w2.setCell ⟨wd.heap.size, 0, none⟩ (.int .i64 t.kind)).setCell ⟨wd.heap.size, 1, none⟩ (.int .u64 t.round)).setCell ⟨wd.heap.size, 2, none⟩ (.slice Aw t.tk.length cw)).setCell ⟨wd.heap.size, 3, none⟩ (.slice Ax t.tk.length cx)).cell? ⟨w.heap.size, 3, none⟩ = some (.int .i64 at_) := ⟨fz.cell_some s2.1 (fun e => by have := HD.out.pl _ (HD.out.p I.bb (by simp)); have : I.bb = wd.heap.size := e; omega), fz.cell_some s2.2 (fun e => by have : w.heap.size = wd.heap.size := e; omega)⟩
      have FZ := Lib.hid fz
      have NN := Lib.hid nz
      have hgl := hga
      have TZ := Lib.hid (((TY.out.pre_ FA.out HD.out.pl).setg NA.out fz (Nat.le_refl _) HD.out.pl).pre_ FD.out H1.out.pl)
      clear fz nz s2
      generalize (((w2.setCell ⟨wd.heap.size, 0, none⟩ (.int .i64 t.kind)).setCell ⟨wd.heap.size, 1, none⟩ (.int .u64 t.round)).setCell ⟨wd.heap.size, 2, none⟩ (.slice Aw t.tk.length cw)).setCell ⟨wd.heap.size, 3, none⟩ (.slice Ax t.tk.length cx) = w5 at *
      refine hK.out _ _ s4 (fun hHeld => ?_)
      clear hK K
      try simp only [Act.put, List.setIfInBounds_toArray, List.set_cons_zero, List.set_cons_succ]
      refine takeC (i := 13) (.bool true) rfl (by kernel_rfl) (by kernel_rfl) (by kernel_rfl) (fun _ _ _ h => h) (Or.inl ⟨by rfl, fun w hw => by go_simp⟩) s4 ?_
      try simp only [Act.put, List.setIfInBounds_toArray, List.set_cons_zero, List.set_cons_succ]
      refine takeC (i := 14) (.int .i64 0) rfl (by kernel_rfl) (by kernel_rfl) (by kernel_rfl) (fun _ _ _ h => h) (Or.inl ⟨by rfl, fun w hw => by go_simp⟩) s4 ?_
      try simp only [Act.put, List.setIfInBounds_toArray, List.set_cons_zero, List.set_cons_succ]
      refine wpAnyH_done (by kernel_rfl) ?_ _
      clear s4 hHeld
      try go_wp2_with fail
      all_goals go_meet
      all_goals exact ⟨_, F', Aw, cw, Ax, cx, xs, rfl, rfl, rfl, NN.out, TZ.out⟩
  case rest =>
    obtain ⟨gT, F', Aw, cw, Ax, cx, xs, rfl, rfl, rfl, nT, hY⟩ := hcut
    obtain ⟨wb, rfl⟩ : ∃ wb, wb = wc := ⟨_, rfl⟩
    have hGr := H1.out.ref.gb
    have rP : P I.rb := H1.out.p _ (.inr (.inl hGr))
    have H2 := Lib.hid hY.M
    have B2 := Lib.hid (B1.out.frm hY.fr fun h => by have := PL.out _ h; omega)
    have NT := Lib.hid nT
    have hszc : w.heap.size < wb.heap.size := by have := hY.fr.size; omega
    have HY := Lib.hid hY
    clear nT hY
    go_upto_region 11 with fail
    go_cut [9, 10] (fun v9 v10 wx => ∃ gU Bw dw Bx dx base, v9 = .pointer (some ⟨gU, 0, none⟩) ∧ v10 = .bool true ∧ Blk wx gU 39 #[.int .i64 t.kind, .int .u64 t.round, .slice Bw t.tk.length dw, .slice Bx t.tk.length dx] ∧ TickR wx wb base I.rb G t Bw Bx)
    case first =>
      have a0 := H2.out.both.cell 1
      have d3 := B2.out.cell 3
      simp at a0 d3
      have s1 : wb.drew.cell? ⟨I.bb, 1, none⟩ = some (.pointer (some ⟨I.rb, 0, none⟩)) ∧ wb.drew.cell? ⟨w.heap.size, 3, none⟩ = some (.int .i64 at_) := ⟨a0, d3⟩
      have HD := Lib.hid (H2.out.frm' (Frm.refl noB wb).drew)
      have FD : Hid (Frm noB wb wb.drew) := Lib.hid (Frm.refl noB wb).drew
      refine wp_region_held_drew (S := fun W => W.cell? ⟨I.bb, 1, none⟩ = some (.pointer (some ⟨I.rb, 0, none⟩)) ∧ W.cell? ⟨w.heap.size, 3, none⟩ = some (.int .i64 at_)) (by kernel_rfl) s1 (fun hHeld => ?_)
      clear a0 d3 hHeld
      generalize wb.drew = wd at *
      refine takeC (i := 0) (.pointer (some ⟨I.bb, 0, none⟩)) rfl (by kernel_rfl) (by kernel_rfl) (by kernel_rfl) (fun _ _ _ h => h) (Or.inl ⟨by rfl, fun w hw => by go_simp⟩) s1 ?_
      try simp only [Act.put, List.setIfInBounds_toArray, List.set_cons_zero, List.set_cons_succ]
      refine takeC (i := 1) (.pointer (some ⟨I.bb, 0, none⟩)) rfl (by kernel_rfl) (by kernel_rfl) (by kernel_rfl) (fun _ _ _ h => h) (Or.inl ⟨by rfl, fun w hw => by go_simp⟩) s1 ?_
      try simp only [Act.put, List.setIfInBounds_toArray, List.set_cons_zero, List.set_cons_succ]
      refine takeC (i := 2) (.pointer (some ⟨I.bb, 1, none⟩)) rfl (by kernel_rfl) (by kernel_rfl) (by kernel_rfl) (fun _ _ _ h => h) (Or.inl ⟨by rfl, fun w hw => by go_simp⟩) s1 ?_
      try simp only [Act.put, List.setIfInBounds_toArray, List.set_cons_zero, List.set_cons_succ]
      refine takeC (i := 3) (.pointer (some ⟨I.rb, 0, none⟩)) rfl (by kernel_rfl) (by kernel_rfl) (by kernel_rfl) (fun _ _ _ h => h) (Or.inl ⟨by rfl, fun w hw => by go_simp⟩) s1 ?_
      try simp only [Act.put, List.setIfInBounds_toArray, List.set_cons_zero, List.set_cons_succ]
      refine takeC (i := 4) (.pointer (some ⟨w.heap.size, 3, none⟩)) rfl (by kernel_rfl) (by kernel_rfl) (by kernel_rfl) (fun _ _ _ h => h) (Or.inl ⟨by rfl, fun w hw => by go_simp⟩) s1 ?_
      try simp only [Act.put, List.setIfInBounds_toArray, List.set_cons_zero, List.set_cons_succ]
      refine takeC (i := 5) (.int .i64 at_) rfl (by kernel_rfl) (by kernel_rfl) (by kernel_rfl) (fun _ _ _ h => h) (Or.inl ⟨by rfl, fun w hw => by go_simp⟩) s1 ?_
      try simp only [Act.put, List.setIfInBounds_toArray, List.set_cons_zero, List.set_cons_succ]
      refine wpAnyH_ready (rs := [6, 10]) (by kernel_rfl) (by simp) ?_
      refine AllReadyH.cons rfl (fun K hK => ?_) (AllReadyH.cons rfl (fun K hK => ?_) AllReadyH.nil)
      · go_simp
        refine (rtick_c HD.out.ref HB.out (by omega) at_).mono ?_
        rintro _ w2 ht
        obtain ⟨_, Bw, dw, Bx, dx, rfl, hE, hbw, hbwa, hbx, f2⟩ := ht.resolve_left fun h => h.1 hyes2
        have TR := Lib.hid (TickR.start hE f2 hbw hbwa hbx)
        have s2 : w2.cell? ⟨I.bb, 1, none⟩ = some (.pointer (some ⟨I.rb, 0, none⟩)) ∧ w2.cell? ⟨w.heap.size, 3, none⟩ = some (.int .i64 at_) := ⟨f2.cell_some s1.1 fun h => (HD.out.fs _ (.inr hGr)).1 h.symm, f2.cell_some s1.2 fun h => by have := PL.out _ rP; have : w.heap.size = I.rb := h; omega⟩
        clear ht hE hbw hbwa hbx
        have szd := FD.out.size
        have F2 := Lib.hid f2
        clear f2 s1
        try dsimp only
        refine hK.out _ _ s2 (fun hHeld => ?_)
        clear hK K
        try simp only [Act.put, List.setIfInBounds_toArray, List.set_cons_zero, List.set_cons_succ]
        refine takeC (i := 7) (.tuple #[.agg #[.int .i64 t.kind, .int .u64 t.round, .slice Bw t.tk.length dw, .slice Bx t.tk.length dx], .bool true]) rfl (by kernel_rfl) (by kernel_rfl) (by kernel_rfl) (fun _ _ _ h => h) (Or.inl ⟨by rfl, fun w hw => by go_simp⟩) s2 ?_
        try simp only [Act.put, List.setIfInBounds_toArray, List.set_cons_zero, List.set_cons_succ]
        refine takeC (i := 8) (.agg #[.int .i64 t.kind, .int .u64 t.round, .slice Bw t.tk.length dw, .slice Bx t.tk.length dx]) rfl (by kernel_rfl) (by kernel_rfl) (by kernel_rfl) (fun _ _ _ h => h) (Or.inl ⟨by rfl, fun w hw => by go_simp⟩) s2 ?_
        try simp only [Act.put, List.setIfInBounds_toArray, List.set_cons_zero, List.set_cons_succ]
        refine takeC (i := 9) (.bool true) rfl (by kernel_rfl) (by kernel_rfl) (by kernel_rfl) (fun _ _ _ h => h) (Or.inl ⟨by rfl, fun w hw => by go_simp⟩) s2 ?_
        try simp only [Act.put, List.setIfInBounds_toArray, List.set_cons_zero, List.set_cons_succ]
        refine consC (i := 10) rfl (by kernel_rfl) (fun K hK => ?_)
        go_simp
        have fa : Frm noB w2 (w2.alloc (.cells #[.int .i64 0, .int .u64 0, .slice none 0 0, .slice none 0 0] 39)) := (Frm.refl _ _).alloc _
        have na : Blk (w2.alloc (.cells #[.int .i64 0, .int .u64 0, .slice none 0 0, .slice none 0 0] 39)) w2.heap.size 39 #[.int .i64 0, .int .u64 0, .slice none 0 0, .slice none 0 0] := Blk.new _ _ _
        have sa : (w2.alloc (.cells #[.int .i64 0, .int .u64 0, .slice none 0 0, .slice none 0 0] 39)).cell? ⟨I.bb, 1, none⟩ = some (.pointer (some ⟨I.rb, 0, none⟩)) ∧ (w2.alloc (.cells #[.int .i64 0, .int .u64 0, .slice none 0 0, .slice none 0 0] 39)).cell? ⟨w.heap.size, 3, none⟩ = some (.int .i64 at_) := ⟨fa.cell_some s2.1 (fun h => h), fa.cell_some s2.2 (fun h => h)⟩
        clear s2
        generalize w2.alloc (.cells #[.int .i64 0, .int .u64 0, .slice none 0 0, .slice none 0 0] 39) = w3 at *
        refine hK.out _ _ sa (fun hHeld => ?_)
        clear hK K
        try simp only [Act.put, List.setIfInBounds_toArray, List.set_cons_zero, List.set_cons_succ]
        have y0 := na.cell 0
        have y1 := na.cell 1
        have y2 := na.cell 2
        have y3 := na.cell 3
        have z0 := na.frozen 0
        have z1 := na.frozen 1
        have z2 := na.frozen 2
        have z3 := na.frozen 3
        simp at y0 y1 y2 y3
        refine consC (i := 11) rfl (by kernel_rfl) (fun K hK => ?_)
        go_simp
        have fz : Frm (isB w2.heap.size) w3 ((((w3.setCell ⟨w2.heap.size, 0, none⟩ (.int .i64 t.kind)).setCell ⟨w2.heap.size, 1, none⟩ (.int .u64 t.round)).setCell ⟨w2.heap.size, 2, none⟩ (.slice Bw t.tk.length dw)).setCell ⟨w2.heap.size, 3, none⟩ (.slice Bx t.tk.length dx)) := ((((Frm.refl (isB w2.heap.size) w3).setCell (a := ⟨w2.heap.size, 0, none⟩) (.inl (show isB w2.heap.size w2.heap.size from rfl)) _).setCell (a := ⟨w2.heap.size, 1, none⟩) (.inl (show isB w2.heap.size w2.heap.size from rfl)) _).setCell (a := ⟨w2.heap.size, 2, none⟩) (.inl (show isB w2.heap.size w2.heap.size from rfl)) _).setCell (a := ⟨w2.heap.size, 3, none⟩) (.inl (show isB w2.heap.size w2.heap.size from rfl)) _
        have nz := (((na.set_ 0 (.int .i64 t.kind)).set_ 1 (.int .u64 t.round)).set_ 2 (.slice Bw t.tk.length dw)).set_ 3 (.slice Bx t.tk.length dx)
        simp only [List.setIfInBounds_toArray, List.set_cons_succ, List.set_cons_zero] at nz
        clear y0 y1 y2 y3 z0 z1 z2 z3
        have s4 : ((((w3.setCell ⟨w2.heap.size, 0, none⟩ (.int .i64 t.kind)).setCell ⟨w2.heap.size, 1, none⟩ (.int .u64 t.round)).setCell ⟨w2.heap.size, 2, none⟩ (.slice Bw t.tk.length dw)).setCell ⟨w2.heap.size, 3, none⟩ (.slice Bx t.tk.length dx)).cell? ⟨I.bb, 1, none⟩ = some (.pointer (some ⟨I.rb, 0, none⟩)) ∧ ((((w3.setCell ⟨w2.heap.size, 0, none⟩ (.int .i64 t.kind)).setCell ⟨w2.heap.size, 1, none⟩ (.int .u64 t.round)).setCell ⟨w2.heap.size, 2, none⟩ (.slice Bw t.tk.length dw)).setCell ⟨w2.heap.size, 3, none⟩ (.slice Bx t.tk.length dx)).cell? ⟨w.heap.size, 3, none⟩ = some (.int .i64 at_) := ⟨fz.cell_some sa.1 (fun e => by have := HD.out.pl _ (HD.out.p I.bb (by simp)); have : I.bb = w2.heap.size := e; have := F2.out.size; omega), fz.cell_some sa.2 (fun e => by have : w.heap.size = w2.heap.size := e; have := F2.out.size; omega)⟩
        have FA := Lib.hid fa
        have FZ := Lib.hid fz
        have NN := Lib.hid nz
        have hgl : wd.heap.size ≤ w2.heap.size := F2.out.size
        have TZ := Lib.hid ((TR.out.frmS (fa.any.trans' fz) (fun k hk e => by have : k = w2.heap.size := e; rcases hk with hk | hk; (have := HD.out.pl _ (HD.out.p _ (.inr (.inl hk))); omega); omega) (fun k hk e => by have : k = w2.heap.size := e; omega)).pre_ FD.out)
        clear fz nz na fa sa
        generalize (((w3.setCell ⟨w2.heap.size, 0, none⟩ (.int .i64 t.kind)).setCell ⟨w2.heap.size, 1, none⟩ (.int .u64 t.round)).setCell ⟨w2.heap.size, 2, none⟩ (.slice Bw t.tk.length dw)).setCell ⟨w2.heap.size, 3, none⟩ (.slice Bx t.tk.length dx) = w5 at *
        refine hK.out _ _ s4 (fun hHeld => ?_)
        clear hK K
        try simp only [Act.put, List.setIfInBounds_toArray, List.set_cons_zero, List.set_cons_succ]
        refine takeC (i := 12) (.bool true) rfl (by kernel_rfl) (by kernel_rfl) (by kernel_rfl) (fun _ _ _ h => h) (Or.inl ⟨by rfl, fun w hw => by go_simp⟩) s4 ?_
        try simp only [Act.put, List.setIfInBounds_toArray, List.set_cons_zero, List.set_cons_succ]
        refine wpAnyH_done (by kernel_rfl) ?_ _
        clear s4 hHeld
        try go_wp2_with fail
        all_goals go_meet
        all_goals exact ⟨_, Bw, dw, Bx, dx, _, rfl, rfl, NN.out, TZ.out⟩
      · go_simp
        have fa : Frm noB wd (wd.alloc (.cells #[.int .i64 0, .int .u64 0, .slice none 0 0, .slice none 0 0] 39)) := (Frm.refl _ _).alloc _
        have na : Blk (wd.alloc (.cells #[.int .i64 0, .int .u64 0, .slice none 0 0, .slice none 0 0] 39)) wd.heap.size 39 #[.int .i64 0, .int .u64 0, .slice none 0 0, .slice none 0 0] := Blk.new _ _ _
        have HA := Lib.hid (HD.out.frm' fa)
        have s0 : (wd.alloc (.cells #[.int .i64 0, .int .u64 0, .slice none 0 0, .slice none 0 0] 39)).cell? ⟨I.bb, 1, none⟩ = some (.pointer (some ⟨I.rb, 0, none⟩)) ∧ (wd.alloc (.cells #[.int .i64 0, .int .u64 0, .slice none 0 0, .slice none 0 0] 39)).cell? ⟨w.heap.size, 3, none⟩ = some (.int .i64 at_) := ⟨fa.cell_some s1.1 (fun h => h), fa.cell_some s1.2 (fun h => h)⟩
        have szd := FD.out.size
        have hga : wd.heap.size < (wd.alloc (.cells #[.int .i64 0, .int .u64 0, .slice none 0 0, .slice none 0 0] 39)).heap.size := na.lt
        clear s1
        generalize wd.alloc (.cells #[.int .i64 0, .int .u64 0, .slice none 0 0, .slice none 0 0] 39) = wa at *
        refine hK.out _ _ s0 (fun hHeld => ?_)
        clear hK K
        try simp only [Act.put, List.setIfInBounds_toArray, List.set_cons_zero, List.set_cons_succ]
        refine consC (i := 6) rfl (by kernel_rfl) (fun K hK => ?_)
        go_simp
        refine (rtick_c HA.out.ref HB.out (by omega) at_).mono ?_
        rintro _ w2 ht
        obtain ⟨_, Bw, dw, Bx, dx, rfl, hE, hbw, hbwa, hbx, f2⟩ := ht.resolve_left fun h => h.1 hyes2
        have TR := Lib.hid (TickR.start hE f2 hbw hbwa hbx)
        have s2 : w2.cell? ⟨I.bb, 1, none⟩ = some (.pointer (some ⟨I.rb, 0, none⟩)) ∧ w2.cell? ⟨w.heap.size, 3, none⟩ = some (.int .i64 at_) := ⟨f2.cell_some s0.1 fun h => (HA.out.fs _ (.inr hGr)).1 h.symm, f2.cell_some s0.2 fun h => by have := PL.out _ rP; have : w.heap.size = I.rb := h; omega⟩
        clear ht hE hbw hbwa hbx
        have NA := Lib.hid (na.frm f2 (fun h => by have := HD.out.pl _ (HD.out.p _ (.inr (.inl hGr))); have : wd.heap.size = I.rb := h; omega))
        have F2 := Lib.hid f2
        have FA := Lib.hid fa
        clear f2 s0 na fa
        try dsimp only
        refine hK.out _ _ s2 (fun hHeld => ?_)
        clear hK K
        try simp only [Act.put, List.setIfInBounds_toArray, List.set_cons_zero, List.set_cons_succ]
        refine takeC (i := 7) (.tuple #[.agg #[.int .i64 t.kind, .int .u64 t.round, .slice Bw t.tk.length dw, .slice Bx t.tk.length dx], .bool true]) rfl (by kernel_rfl) (by kernel_rfl) (by kernel_rfl) (fun _ _ _ h => h) (Or.inl ⟨by rfl, fun w hw => by go_simp⟩) s2 ?_
        try simp only [Act.put, List.setIfInBounds_toArray, List.set_cons_zero, List.set_cons_succ]
        refine takeC (i := 8) (.agg #[.int .i64 t.kind, .int .u64 t.round, .slice Bw t.tk.length dw, .slice Bx t.tk.length dx]) rfl (by kernel_rfl) (by kernel_rfl) (by kernel_rfl) (fun _ _ _ h => h) (Or.inl ⟨by rfl, fun w hw => by go_simp⟩) s2 ?_
        try simp only [Act.put, List.setIfInBounds_toArray, List.set_cons_zero, List.set_cons_succ]
        refine takeC (i := 9) (.bool true) rfl (by kernel_rfl) (by kernel_rfl) (by kernel_rfl) (fun _ _ _ h => h) (Or.inl ⟨by rfl, fun w hw => by go_simp⟩) s2 ?_
        try simp only [Act.put, List.setIfInBounds_toArray, List.set_cons_zero, List.set_cons_succ]
        have y0 := NA.out.cell 0
        have y1 := NA.out.cell 1
        have y2 := NA.out.cell 2
        have y3 := NA.out.cell 3
        have z0 := NA.out.frozen 0
        have z1 := NA.out.frozen 1
        have z2 := NA.out.frozen 2
        have z3 := NA.out.frozen 3
        simp at y0 y1 y2 y3
        refine consC (i := 11) rfl (by kernel_rfl) (fun K hK => ?_)
        go_simp
        have fz : Frm (isB wd.heap.size) w2 ((((w2.setCell ⟨wd.heap.size, 0, none⟩ (.int .i64 t.kind)).setCell ⟨wd.heap.size, 1, none⟩ (.int .u64 t.round)).setCell ⟨wd.heap.size, 2, none⟩ (.slice Bw t.tk.length dw)).setCell ⟨wd.heap.size, 3, none⟩ (.slice Bx t.tk.length dx)) := ((((Frm.refl (isB wd.heap.size) w2).setCell (a := ⟨wd.heap.size, 0, none⟩) (.inl (show isB wd.heap.size wd.heap.size from rfl)) _).setCell (a := ⟨wd.heap.size, 1, none⟩) (.inl (show isB wd.heap.size wd.heap.size from rfl)) _).setCell (a := ⟨wd.heap.size, 2, none⟩) (.inl (show isB wd.heap.size wd.heap.size from rfl)) _).setCell (a := ⟨wd.heap.size, 3, none⟩) (.inl (show isB wd.heap.size wd.heap.size from rfl)) _
        have nz := (((NA.out.set_ 0 (.int .i64 t.kind)).set_ 1 (.int .u64 t.round)).set_ 2 (.slice Bw t.tk.length dw)).set_ 3 (.slice Bx t.tk.length dx)
        simp only [List.setIfInBounds_toArray, List.set_cons_succ, List.set_cons_zero] at nz
        clear y0 y1 y2 y3 z0 z1 z2 z3
        have s4 : ((((w2.setCell ⟨wd.heap.size, 0, none⟩ (.int .i64 t.kind)).setCell ⟨wd.heap.size, 1, none⟩ (.int .u64 t.round)).setCell ⟨wd.heap.size, 2, none⟩ (.slice Bw t.tk.length dw)).setCell ⟨wd.heap.size, 3, none⟩ (.slice Bx t.tk.length dx)).cell? ⟨I.bb, 1, none⟩ = some (.pointer (some ⟨I.rb, 0, none⟩)) ∧ ((((w2.setCell ⟨wd.heap.size, 0, none⟩ (.int .i64 t.kind)).setCell ⟨wd.heap.size, 1, none⟩ (.int .u64 t.round)).setCell ⟨wd.heap.size, 2, none⟩ (.slice Bw t.tk.length dw)).setCell ⟨wd.heap.size, 3, none⟩ (.slice Bx t.tk.length dx)).cell? ⟨w.heap.size, 3, none⟩ = some (.int .i64 at_) := ⟨fz.cell_some s2.1 (fun e => by have := HD.out.pl _ (HD.out.p I.bb (by simp)); have : I.bb = wd.heap.size := e; omega), fz.cell_some s2.2 (fun e => by have : w.heap.size = wd.heap.size := e; omega)⟩
        have FZ := Lib.hid fz
        have NN := Lib.hid nz
        have hgl := hga
        have TZ := Lib.hid (((TR.out.pre_ FA.out).frmS fz (fun k hk e => by have : k = wd.heap.size := e; rcases hk with hk | hk; (have := HD.out.pl _ (HD.out.p _ (.inr (.inl hk))); omega); omega) (fun k hk e => by have : k = wd.heap.size := e; omega)).pre_ FD.out)
        clear fz nz s2
        generalize (((w2.setCell ⟨wd.heap.size, 0, none⟩ (.int .i64 t.kind)).setCell ⟨wd.heap.size, 1, none⟩ (.int .u64 t.round)).setCell ⟨wd.heap.size, 2, none⟩ (.slice Bw t.tk.length dw)).setCell ⟨wd.heap.size, 3, none⟩ (.slice Bx t.tk.length dx) = w5 at *
        refine hK.out _ _ s4 (fun hHeld => ?_)
        clear hK K
        try simp only [Act.put, List.setIfInBounds_toArray, List.set_cons_zero, List.set_cons_succ]
        refine takeC (i := 12) (.bool true) rfl (by kernel_rfl) (by kernel_rfl) (by kernel_rfl) (fun _ _ _ h => h) (Or.inl ⟨by rfl, fun w hw => by go_simp⟩) s4 ?_
        try simp only [Act.put, List.setIfInBounds_toArray, List.set_cons_zero, List.set_cons_succ]
        refine wpAnyH_done (by kernel_rfl) ?_ _
        clear s4 hHeld
        try go_wp2_with fail
        all_goals go_meet
        all_goals exact ⟨_, Bw, dw, Bx, dx, _, rfl, rfl, NN.out, TZ.out⟩
    case rest =>
      obtain ⟨gU, Bw, dw, Bx, dx, base, rfl, rfl, nU, hR⟩ := hcut
      have M3 := H2.out.refe hR.ent ⟨rfl, rfl⟩ (hR.fr.mono fun k _ e => (show k = I.rb from e) ▸ hGr) (Grow.refl _ _ _)
      have hl1 := H1.out.pl
      have hrl : I.rb < w1.heap.size := hl1 _ rP
      have HH : Hid (Shut2 w w1 wc I F F' G P (More (More P w1 wb) wb wc) s t m Aw Ax Bw Bx cw cx xs) := Lib.hid ⟨M3,
        own_frm HY.out.who hR.fr fun q hq e => by have := (own_lt HY.out.who q hq).1; have : q = I.rb := e; omega,
        own_frm HY.out.row hR.fr fun q hq e => H1.out.fg _ (HY.out.inF q (.inl hq)).1 ((show q = I.rb from e) ▸ hGr),
        HY.out.box.frm hR.fr fun i hi q hq e => H1.out.fg _ (HY.out.inF q (.inr ⟨i, hi, hq⟩)).1 ((show q = I.rb from e) ▸ hGr),
        hR.rw1, hR.rx1.mono fun _ _ => trivial,
        fun k hk => ⟨⟨H1.out.p k (.inl (HY.out.inF k hk).1), hl1 k (H1.out.p k (.inl (HY.out.inF k hk).1))⟩, fun h => by
          rcases h with h | h | h
          · exact (HY.out.inF k hk).2 h
          · exact H1.out.fg k (HY.out.inF k hk).1 h
          · have := H1.out.fs k (.inl (HY.out.inF k hk).1)
            rcases h with h | h | h | h
            · exact this.1 h
            · exact this.2.1 h
            · exact this.2.2.1 h
            · exact this.2.2.2 h⟩,
        fun k hk => hl1 k (HY.out.old k hk)⟩
      have s0 := F1.out.size
      have s1 := HY.out.fr.size
      have s2 := hR.fr.size
      have FF : Hid (Frm P w wc) := Lib.hid ((F1.out.any.trans' HY.out.fr).trans' (hR.fr.mono fun k _ e => (show k = I.rb from e) ▸ rP))
      have NT3 := Lib.hid (NT.out.frm hR.fr fun e => by
        obtain ⟨_, _, _, _, h⟩ := H2.out.ref
        exact NT.out.ne_ h.blk (by decide) e)
      have NU := Lib.hid nU
      have hQ : Hid (∀ k, More (More P w1 wb) wb wc k → More P w wc k) := Lib.hid fun k hk => by
        rcases hk with (hk | hk) | hk
        · exact .inl hk
        · exact .inr ⟨by omega, by omega⟩
        · exact .inr ⟨by omega, by omega⟩
      clear M3 nU hR NT H2 B2
      have y0 := NT3.out.cell 0
      have y1 := NT3.out.cell 1
      have y2 := NT3.out.cell 2
      have y3 := NT3.out.cell 3
      have x0 := NU.out.cell 0
      have x1 := NU.out.cell 1
      have x2 := NU.out.cell 2
      have x3 := NU.out.cell 3
      simp at y0 y1 y2 y3 x0 x1 x2 x3
      go_wp2_with fail
      refine (HH.out.same HR.out HB.out hBB hyes.1 FF.out (by omega) hQ.out PL.out).mono ?_
      rintro _ w6 ⟨rfl, hS⟩
      have HS := Lib.hid hS
      clear hS y0 y1 y2 y3 x0 x1 x2 x3
      try dsimp only
      go_wp2_with fail
      go_ret
      exact ⟨rfl, HS.out⟩
end
end Go.Proofs.Ytjnoddbhfcpniaa
