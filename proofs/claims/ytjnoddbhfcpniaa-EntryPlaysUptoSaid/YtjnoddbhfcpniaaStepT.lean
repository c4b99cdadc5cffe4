/-
  EntryPlays: the law's step, Tick, where nothing is due.
-/
import Derived.Test.YtjnoddbhfcpniaaStepC
import Derived.Deep.DeepCutAuto
namespace Go.Proofs.Ytjnoddbhfcpniaa
open Go.RowKit
open Go.BigFrame
set_option linter.unusedVariables false
set_option linter.unusedSimpArgs false

section
variable {w : World} {I : Ids} {F G P : Nat → Prop} {s : ES} {t : RS} {m : Int} {B : Nat}
set_option maxRecDepth 100000 in
set_option maxHeartbeats 400000 in
theorem step_tick_no (h : PrM w I F G P s t m m) (hr : Rel s t) (hb : RB t B) (hBB : B ≤ 1048576) (kind round at_ client : Int) (A Ar : Option Addr) (data : List UInt8) (rows : List (List UInt8)) (c cr : Nat) (hD : Rd w A (data.map bv)) (hA : data ≠ [] → ∀ k, aB A k → ¬ P k) (hL : data.length ≤ B) (hR : RdRows w Ar rows (fun k => ¬ P k)) (hRl : ∀ l ∈ rows, l.length ≤ B) (hRn : rows.length ≤ B) (hno : ¬ (s.phase = 1 ∧ s.til ≤ at_)) :
    Calls Try.prog 28 #[.pointer (some ⟨I.bb, 0, none⟩), .agg #[.int .i64 3, .int .i64 kind, .int .u64 round, .int .i64 at_, .int .i64 client, .slice A data.length c, .slice Ar rows.length cr]] w fun e w' => e = .returned (.bool true) ∧ StepTo w I P B w' := by
  have f1 : Frm noB w (w.alloc (.cells #[.int .i64 3, .int .i64 kind, .int .u64 round, .int .i64 at_, .int .i64 client, .slice A data.length c, .slice Ar rows.length cr] 68)) := (Frm.refl _ _).alloc _
  have b1 : Blk (w.alloc (.cells #[.int .i64 3, .int .i64 kind, .int .u64 round, .int .i64 at_, .int .i64 client, .slice A data.length c, .slice Ar rows.length cr] 68)) w.heap.size 68 #[.int .i64 3, .int .i64 kind, .int .u64 round, .int .i64 at_, .int .i64 client, .slice A data.length c, .slice Ar rows.length cr] := Blk.new _ _ _
  have hsz1 : w.heap.size < (w.alloc (.cells #[.int .i64 3, .int .i64 kind, .int .u64 round, .int .i64 at_, .int .i64 client, .slice A data.length c, .slice Ar rows.length cr] 68)).heap.size := b1.lt
  have H1 := Lib.hid (h.frm' f1)
  have D1 := Lib.hid (hD.frm' f1)
  have W1 := Lib.hid (hR.frm' f1)
  have B1 := Lib.hid b1
  have F1 := Lib.hid f1
  have PL := Lib.hid h.pl
  have HR := Lib.hid hr
  have HB := Lib.hid hb
  have HAP := Lib.hid hA
  have HRL := Lib.hid hRl
  clear h hD f1 b1 hr hb hA hR hRl
  go_enter Try.func28, Try.ntmps28
  go_upto_region 1 with fail
  generalize w.alloc (.cells #[.int .i64 3, .int .i64 kind, .int .u64 round, .int .i64 at_, .int .i64 client, .slice A data.length c, .slice Ar rows.length cr] 68) = w1 at *
  have c0 := B1.out.cell 0
  simp at c0
  have hno2 : ¬ (t.op = true ∧ t.til ≤ at_) := fun h => hno ⟨HR.out.ph1.1 h.1, by rw [(HR.out.kd (HR.out.ph1.1 h.1)).2.2.1]; exact h.2⟩
  go_upto_region 10 with fail
  clear c0
  go_cut [6, 7, 8] (fun v6 v7 v8 wx => ∃ gT, v6 = .pointer (some ⟨gT, 0, none⟩) ∧ v7 = .bool false ∧ v8 = .int .i64 0 ∧ Blk wx gT 39 #[.int .i64 0, .int .u64 0, .slice none 0 0, .slice none 0 0] ∧ Frm noB w1 wx)
  case first =>
    have a0 := H1.out.both.cell 0
    have d3 := B1.out.cell 3
    simp at a0 d3
    have s1 : w1.drew.cell? ⟨I.bb, 0, none⟩ = some (.pointer (some ⟨I.eb, 0, none⟩)) ∧ w1.drew.cell? ⟨w.heap.size, 3, none⟩ = some (.int .i64 at_) := ⟨a0, d3⟩
    have HD := Lib.hid (H1.out.frm' (Frm.refl noB w1).drew)
    have FD : Hid (Frm noB w1 w1.drew) := Lib.hid (Frm.refl noB w1).drew
    refine wp_region_held_drew (S := fun W => W.cell? ⟨I.bb, 0, none⟩ = some (.pointer (some ⟨I.eb, 0, none⟩)) ∧ W.cell? ⟨w.heap.size, 3, none⟩ = some (.int .i64 at_)) (by kernel_rfl) s1 (fun hHeld => ?_)
    clear a0 d3 hHeld
    generalize w1.drew = wd at *
    refine takeC (i := 0) (.pointer (some ⟨I.bb, 0, none⟩)) rfl (by kernel_rfl) (by kernel_rfl) (by kernel_rfl) (fun _ _ _ h => h) (Or.inl ⟨by rfl, fun w hw => by go_simp⟩) s1 ?_
    try simp only [Act.put, List.setIfInBounds_toArray, List.set_cons_zero, List.set_cons_succ]
    refine takeC (i := 1) (.pointer (some ⟨I.bb, 0, none⟩)) rfl (by kernel_rfl) (by kernel_rfl) (by kernel_rfl) (fun _ _ _ h => h) (Or.inl ⟨by rfl, fun w hw => by go_simp⟩) s1 ?_
    try simp only [Act.put, List.setIfInBounds_toArray, List.set_cons_zero, List.set_cons_succ]
    refine takeC (i := 2) (.pointer (some ⟨I.bb, 0, none⟩)) rfl (by kernel_rfl) (by kernel_rfl) (by kernel_rfl) (fun _ _ _ h => h) (Or.inl ⟨by rfl, fun w hw => by go_simp⟩) s1 ?_
    try simp only [Act.put, List.setIfInBounds_toArray, List.set_cons_zero, List.set_cons_succ]
    refine takeC (i := 3) (.pointer (some ⟨I.eb, 0, none⟩)) rfl (by kernel_rfl) (by kernel_rfl) (by kernel_rfl) (fun _ _ _ h => h) (Or.inl ⟨by rfl, fun w hw => by go_simp⟩) s1 ?_
    try simp only [Act.put, List.setIfInBounds_toArray, List.set_cons_zero, List.set_cons_succ]
    refine takeC (i := 4) (.pointer (some ⟨w.heap.size, 3, none⟩)) rfl (by kernel_rfl) (by kernel_rfl) (by kernel_rfl) (fun _ _ _ h => h) (Or.inl ⟨by rfl, fun w hw => by go_simp⟩) s1 ?_
    try simp only [Act.put, List.setIfInBounds_toArray, List.set_cons_zero, List.set_cons_succ]
    refine takeC (i := 5) (.int .i64 at_) rfl (by kernel_rfl) (by kernel_rfl) (by kernel_rfl) (fun _ _ _ h => h) (Or.inl ⟨by rfl, fun w hw => by go_simp⟩) s1 ?_
    try simp only [Act.put, List.setIfInBounds_toArray, List.set_cons_zero, List.set_cons_succ]
    refine wpAnyH_ready (rs := [6, 11]) (by kernel_rfl) (by simp) ?_
    refine AllReadyH.cons rfl (fun K hK => ?_) (AllReadyH.cons rfl (fun K hK => ?_) AllReadyH.nil)
    · go_simp
      refine (tick_c HD.out.ent at_).mono ?_
      rintro _ w2 ht
      obtain ⟨_, rfl, _, f2⟩ := ht.resolve_right fun h => hno h.1
      have s2 : w2.cell? ⟨I.bb, 0, none⟩ = some (.pointer (some ⟨I.eb, 0, none⟩)) ∧ w2.cell? ⟨w.heap.size, 3, none⟩ = some (.int .i64 at_) := ⟨f2.cell_some s1.1 fun h => h, f2.cell_some s1.2 fun h => h⟩
      clear ht
      have szd := FD.out.size
      have F2 := Lib.hid f2
      clear f2 s1
      try dsimp only
      refine hK.out _ _ s2 (fun hHeld => ?_)
      clear hK K
      try simp only [Act.put, List.setIfInBounds_toArray, List.set_cons_zero, List.set_cons_succ]
      refine takeC (i := 7) (.tuple #[.agg #[.int .i64 0, .int .u64 0, .slice none 0 0, .slice none 0 0], .bool false, .int .i64 0]) rfl (by kernel_rfl) (by kernel_rfl) (by kernel_rfl) (fun _ _ _ h => h) (Or.inl ⟨by rfl, fun w hw => by go_simp⟩) s2 ?_
      try simp only [Act.put, List.setIfInBounds_toArray, List.set_cons_zero, List.set_cons_succ]
      refine takeC (i := 8) (.agg #[.int .i64 0, .int .u64 0, .slice none 0 0, .slice none 0 0]) rfl (by kernel_rfl) (by kernel_rfl) (by kernel_rfl) (fun _ _ _ h => h) (Or.inl ⟨by rfl, fun w hw => by go_simp⟩) s2 ?_
      try simp only [Act.put, List.setIfInBounds_toArray, List.set_cons_zero, List.set_cons_succ]
      refine takeC (i := 9) (.bool false) rfl (by kernel_rfl) (by kernel_rfl) (by kernel_rfl) (fun _ _ _ h => h) (Or.inl ⟨by rfl, fun w hw => by go_simp⟩) s2 ?_
      try simp only [Act.put, List.setIfInBounds_toArray, List.set_cons_zero, List.set_cons_succ]
      refine takeC (i := 10) (.int .i64 0) rfl (by kernel_rfl) (by kernel_rfl) (by kernel_rfl) (fun _ _ _ h => h) (Or.inl ⟨by rfl, fun w hw => by go_simp⟩) s2 ?_
      try simp only [Act.put, List.setIfInBounds_toArray, List.set_cons_zero, List.set_cons_succ]
      refine consC (i := 11) rfl (by kernel_rfl) (fun K hK => ?_)
      go_simp
      have fa : Frm noB w2 (w2.alloc (.cells #[.int .i64 0, .int .u64 0, .slice none 0 0, .slice none 0 0] 39)) := (Frm.refl _ _).alloc _
      have na : Blk (w2.alloc (.cells #[.int .i64 0, .int .u64 0, .slice none 0 0, .slice none 0 0] 39)) w2.heap.size 39 #[.int .i64 0, .int .u64 0, .slice none 0 0, .slice none 0 0] := Blk.new _ _ _
      have sa : (w2.alloc (.cells #[.int .i64 0, .int .u64 0, .slice none 0 0, .slice none 0 0] 39)).cell? ⟨I.bb, 0, none⟩ = some (.pointer (some ⟨I.eb, 0, none⟩)) ∧ (w2.alloc (.cells #[.int .i64 0, .int .u64 0, .slice none 0 0, .slice none 0 0] 39)).cell? ⟨w.heap.size, 3, none⟩ = some (.int .i64 at_) := ⟨fa.cell_some s2.1 (fun h => h), fa.cell_some s2.2 (fun h => h)⟩
      clear s2
      generalize w2.alloc (.cells #[.int .i64 0, .int .u64 0, .slice none 0 0, .slice none 0 0] 39) = w3 at *
      refine hK.out _ _ sa (fun hHeld => ?_)
      clear hK K
      try simp only [Act.put, List.setIfInBounds_toArray, List.set_cons_zero, List.set_cons_succ]
      have y0 := na.cell 0
      have y1 := na.cell 1
      have y2 := na.cell 2
      have y3 := na.cell 3
      have z0 := na.frozen 0
      have z1 := na.frozen 1
      have z2 := na.frozen 2
      have z3 := na.frozen 3
      simp at y0 y1 y2 y3
      refine consC (i := 12) rfl (by kernel_rfl) (fun K hK => ?_)
      go_simp
      have fz : Frm (isB w2.heap.size) w3 ((((w3.setCell ⟨w2.heap.size, 0, none⟩ (.int .i64 0)).setCell ⟨w2.heap.size, 1, none⟩ (.int .u64 0)).setCell ⟨w2.heap.size, 2, none⟩ (.slice none 0 0)).setCell ⟨w2.heap.size, 3, none⟩ (.slice none 0 0)) := ((((Frm.refl (isB w2.heap.size) w3).setCell (a := ⟨w2.heap.size, 0, none⟩) (.inl (show isB w2.heap.size w2.heap.size from rfl)) _).setCell (a := ⟨w2.heap.size, 1, none⟩) (.inl (show isB w2.heap.size w2.heap.size from rfl)) _).setCell (a := ⟨w2.heap.size, 2, none⟩) (.inl (show isB w2.heap.size w2.heap.size from rfl)) _).setCell (a := ⟨w2.heap.size, 3, none⟩) (.inl (show isB w2.heap.size w2.heap.size from rfl)) _
      have nz := (((na.set_ 0 (.int .i64 0)).set_ 1 (.int .u64 0)).set_ 2 (.slice none 0 0)).set_ 3 (.slice none 0 0)
      simp only [List.setIfInBounds_toArray, List.set_cons_succ, List.set_cons_zero] at nz
      clear y0 y1 y2 y3 z0 z1 z2 z3
      have s4 : ((((w3.setCell ⟨w2.heap.size, 0, none⟩ (.int .i64 0)).setCell ⟨w2.heap.size, 1, none⟩ (.int .u64 0)).setCell ⟨w2.heap.size, 2, none⟩ (.slice none 0 0)).setCell ⟨w2.heap.size, 3, none⟩ (.slice none 0 0)).cell? ⟨I.bb, 0, none⟩ = some (.pointer (some ⟨I.eb, 0, none⟩)) ∧ ((((w3.setCell ⟨w2.heap.size, 0, none⟩ (.int .i64 0)).setCell ⟨w2.heap.size, 1, none⟩ (.int .u64 0)).setCell ⟨w2.heap.size, 2, none⟩ (.slice none 0 0)).setCell ⟨w2.heap.size, 3, none⟩ (.slice none 0 0)).cell? ⟨w.heap.size, 3, none⟩ = some (.int .i64 at_) := ⟨fz.cell_some sa.1 (fun e => by have := HD.out.pl _ (HD.out.p I.bb (by simp)); have : I.bb = w2.heap.size := e; have := F2.out.size; omega), fz.cell_some sa.2 (fun e => by have : w.heap.size = w2.heap.size := e; have := F2.out.size; omega)⟩
      have FA := Lib.hid fa
      have FZ := Lib.hid fz
      have NN := Lib.hid nz
      have hgl : wd.heap.size ≤ w2.heap.size := F2.out.size
      clear fz nz na fa sa
      generalize (((w3.setCell ⟨w2.heap.size, 0, none⟩ (.int .i64 0)).setCell ⟨w2.heap.size, 1, none⟩ (.int .u64 0)).setCell ⟨w2.heap.size, 2, none⟩ (.slice none 0 0)).setCell ⟨w2.heap.size, 3, none⟩ (.slice none 0 0) = w5 at *
      refine hK.out _ _ s4 (fun hHeld => ?_)
      clear hK K
      try simp only [Act.put, List.setIfInBounds_toArray, List.set_cons_zero, List.set_cons_succ]
      refine takeC (i := 13) (.bool false) rfl (by kernel_rfl) (by kernel_rfl) (by kernel_rfl) (fun _ _ _ h => h) (Or.inl ⟨by rfl, fun w hw => by go_simp⟩) s4 ?_
      try simp only [Act.put, List.setIfInBounds_toArray, List.set_cons_zero, List.set_cons_succ]
      refine takeC (i := 14) (.int .i64 0) rfl (by kernel_rfl) (by kernel_rfl) (by kernel_rfl) (fun _ _ _ h => h) (Or.inl ⟨by rfl, fun w hw => by go_simp⟩) s4 ?_
      try simp only [Act.put, List.setIfInBounds_toArray, List.set_cons_zero, List.set_cons_succ]
      refine wpAnyH_done (by kernel_rfl) ?_ _
      clear s4 hHeld
      try go_wp2_with fail
      all_goals go_meet
      all_goals exact ⟨_, rfl, rfl, rfl, NN.out, ((FD.out.trans' F2.out).trans' FA.out).trans FZ.out fun q hq e => by have : q = w2.heap.size := e; omega⟩
    · go_simp
      have fa : Frm noB wd (wd.alloc (.cells #[.int .i64 0, .int .u64 0, .slice none 0 0, .slice none 0 0] 39)) := (Frm.refl _ _).alloc _
      have na : Blk (wd.alloc (.cells #[.int .i64 0, .int .u64 0, .slice none 0 0, .slice none 0 0] 39)) wd.heap.size 39 #[.int .i64 0, .int .u64 0, .slice none 0 0, .slice none 0 0] := Blk.new _ _ _
      have HA := Lib.hid (HD.out.frm' fa)
      have s0 : (wd.alloc (.cells #[.int .i64 0, .int .u64 0, .slice none 0 0, .slice none 0 0] 39)).cell? ⟨I.bb, 0, none⟩ = some (.pointer (some ⟨I.eb, 0, none⟩)) ∧ (wd.alloc (.cells #[.int .i64 0, .int .u64 0, .slice none 0 0, .slice none 0 0] 39)).cell? ⟨w.heap.size, 3, none⟩ = some (.int .i64 at_) := ⟨fa.cell_some s1.1 (fun h => h), fa.cell_some s1.2 (fun h => h)⟩
      have szd := FD.out.size
      have hga : wd.heap.size < (wd.alloc (.cells #[.int .i64 0, .int .u64 0, .slice none 0 0, .slice none 0 0] 39)).heap.size := na.lt
      clear s1
      generalize wd.alloc (.cells #[.int .i64 0, .int .u64 0, .slice none 0 0, .slice none 0 0] 39) = wa at *
      refine hK.out _ _ s0 (fun hHeld => ?_)
      clear hK K
      try simp only [Act.put, List.setIfInBounds_toArray, List.set_cons_zero, List.set_cons_succ]
      refine consC (i := 6) rfl (by kernel_rfl) (fun K hK => ?_)
      go_simp
      refine (tick_c HA.out.ent at_).mono ?_
      rintro _ w2 ht
      obtain ⟨_, rfl, _, f2⟩ := ht.resolve_right fun h => hno h.1
      have s2 : w2.cell? ⟨I.bb, 0, none⟩ = some (.pointer (some ⟨I.eb, 0, none⟩)) ∧ w2.cell? ⟨w.heap.size, 3, none⟩ = some (.int .i64 at_) := ⟨f2.cell_some s0.1 fun h => h, f2.cell_some s0.2 fun h => h⟩
      clear ht
      have NA := Lib.hid (na.frm f2 (fun h => h))
      have F2 := Lib.hid f2
      have FA := Lib.hid fa
      clear f2 s0 na fa
      try dsimp only
      refine hK.out _ _ s2 (fun hHeld => ?_)
      clear hK K
      try simp only [Act.put, List.setIfInBounds_toArray, List.set_cons_zero, List.set_cons_succ]
      refine takeC (i := 7) (.tuple #[.agg #[.int .i64 0, .int .u64 0, .slice none 0 0, .slice none 0 0], .bool false, .int .i64 0]) rfl (by kernel_rfl) (by kernel_rfl) (by kernel_rfl) (fun _ _ _ h => h) (Or.inl ⟨by rfl, fun w hw => by go_simp⟩) s2 ?_
      try simp only [Act.put, List.setIfInBounds_toArray, List.set_cons_zero, List.set_cons_succ]
      refine takeC (i := 8) (.agg #[.int .i64 0, .int .u64 0, .slice none 0 0, .slice none 0 0]) rfl (by kernel_rfl) (by kernel_rfl) (by kernel_rfl) (fun _ _ _ h => h) (Or.inl ⟨by rfl, fun w hw => by go_simp⟩) s2 ?_
      try simp only [Act.put, List.setIfInBounds_toArray, List.set_cons_zero, List.set_cons_succ]
      refine takeC (i := 9) (.bool false) rfl (by kernel_rfl) (by kernel_rfl) (by kernel_rfl) (fun _ _ _ h => h) (Or.inl ⟨by rfl, fun w hw => by go_simp⟩) s2 ?_
      try simp only [Act.put, List.setIfInBounds_toArray, List.set_cons_zero, List.set_cons_succ]
      refine takeC (i := 10) (.int .i64 0) rfl (by kernel_rfl) (by kernel_rfl) (by kernel_rfl) (fun _ _ _ h => h) (Or.inl ⟨by rfl, fun w hw => by go_simp⟩) s2 ?_
      try simp only [Act.put, List.setIfInBounds_toArray, List.set_cons_zero, List.set_cons_succ]
      have y0 := NA.out.cell 0
      have y1 := NA.out.cell 1
      have y2 := NA.out.cell 2
      have y3 := NA.out.cell 3
      have z0 := NA.out.frozen 0
      have z1 := NA.out.frozen 1
      have z2 := NA.out.frozen 2
      have z3 := NA.out.frozen 3
      simp at y0 y1 y2 y3
      refine consC (i := 12) rfl (by kernel_rfl) (fun K hK => ?_)
      go_simp
      have fz : Frm (isB wd.heap.size) w2 ((((w2.setCell ⟨wd.heap.size, 0, none⟩ (.int .i64 0)).setCell ⟨wd.heap.size, 1, none⟩ (.int .u64 0)).setCell ⟨wd.heap.size, 2, none⟩ (.slice none 0 0)).setCell ⟨wd.heap.size, 3, none⟩ (.slice none 0 0)) := ((((Frm.refl (isB wd.heap.size) w2).setCell (a := ⟨wd.heap.size, 0, none⟩) (.inl (show isB wd.heap.size wd.heap.size from rfl)) _).setCell (a := ⟨wd.heap.size, 1, none⟩) (.inl (show isB wd.heap.size wd.heap.size from rfl)) _).setCell (a := ⟨wd.heap.size, 2, none⟩) (.inl (show isB wd.heap.size wd.heap.size from rfl)) _).setCell (a := ⟨wd.heap.size, 3, none⟩) (.inl (show isB wd.heap.size wd.heap.size from rfl)) _
      have nz := (((NA.out.set_ 0 (.int .i64 0)).set_ 1 (.int .u64 0)).set_ 2 (.slice none 0 0)).set_ 3 (.slice none 0 0)
      simp only [List.setIfInBounds_toArray, List.set_cons_succ, List.set_cons_zero] at nz
      clear y0 y1 y2 y3 z0 z1 z2 z3
      have s4 : ((((w2.setCell ⟨wd.heap.size, 0, none⟩ (.int .i64 0)).setCell ⟨wd.heap.size, 1, none⟩ (.int .u64 0)).setCell ⟨wd.heap.size, 2, none⟩ (.slice none 0 0)).setCell ⟨wd.heap.size, 3, none⟩ (.slice none 0 0)).cell? ⟨I.bb, 0, none⟩ = some (.pointer (some ⟨I.eb, 0, none⟩)) ∧ ((((w2.setCell ⟨wd.heap.size, 0, none⟩ (.int .i64 0)).setCell ⟨wd.heap.size, 1, none⟩ (.int .u64 0)).setCell ⟨wd.heap.size, 2, none⟩ (.slice none 0 0)).setCell ⟨wd.heap.size, 3, none⟩ (.slice none 0 0)).cell? ⟨w.heap.size, 3, none⟩ = some (.int .i64 at_) := ⟨fz.cell_some s2.1 (fun e => by have := HD.out.pl _ (HD.out.p I.bb (by simp)); have : I.bb = wd.heap.size := e; omega), fz.cell_some s2.2 (fun e => by have : w.heap.size = wd.heap.size := e; omega)⟩
      have FZ := Lib.hid fz
      have NN := Lib.hid nz
      have hgl := hga
      clear fz nz s2
      generalize (((w2.setCell ⟨wd.heap.size, 0, none⟩ (.int .i64 0)).setCell ⟨wd.heap.size, 1, none⟩ (.int .u64 0)).setCell ⟨wd.heap.size, 2, none⟩ (.slice none 0 0)).setCell ⟨wd.heap.size, 3, none⟩ (.slice none 0 0) = w5 at *
      refine hK.out _ _ s4 (fun hHeld => ?_)
      clear hK K
      try simp only [Act.put, List.setIfInBounds_toArray, List.set_cons_zero, List.set_cons_succ]
      refine takeC (i := 13) (.bool false) rfl (by kernel_rfl) (by kernel_rfl) (by kernel_rfl) (fun _ _ _ h => h) (Or.inl ⟨by rfl, fun w hw => by go_simp⟩) s4 ?_
      try simp only [Act.put, List.setIfInBounds_toArray, List.set_cons_zero, List.set_cons_succ]
      refine takeC (i := 14) (.int .i64 0) rfl (by kernel_rfl) (by kernel_rfl) (by kernel_rfl) (fun _ _ _ h => h) (Or.inl ⟨by rfl, fun w hw => by go_simp⟩) s4 ?_
      try simp only [Act.put, List.setIfInBounds_toArray, List.set_cons_zero, List.set_cons_succ]
      refine wpAnyH_done (by kernel_rfl) ?_ _
      clear s4 hHeld
      try go_wp2_with fail
      all_goals go_meet
      all_goals exact ⟨_, rfl, rfl, rfl, NN.out, ((FD.out.trans' FA.out).trans' F2.out).trans FZ.out fun q hq e => by have : q = wd.heap.size := e; omega⟩
  case rest =>
    obtain ⟨gT, rfl, rfl, rfl, nT, f2⟩ := hcut
    have H2 := Lib.hid (H1.out.frm' f2)
    have B2 := Lib.hid (B1.out.frm' f2)
    have NT := Lib.hid nT
    have F2 := Lib.hid (F1.out.trans' f2)
    have hszc : w.heap.size < wc.heap.size := by have := f2.size; omega
    clear nT f2
    go_upto_region 11 with fail
    go_cut [9, 10] (fun v9 v10 wx => ∃ gU, v9 = .pointer (some ⟨gU, 0, none⟩) ∧ v10 = .bool false ∧ Blk wx gU 39 #[.int .i64 0, .int .u64 0, .slice none 0 0, .slice none 0 0] ∧ Frm noB wc wx)
    case first =>
      have a0 := H2.out.both.cell 1
      have d3 := B2.out.cell 3
      simp at a0 d3
      have s1 : wc.drew.cell? ⟨I.bb, 1, none⟩ = some (.pointer (some ⟨I.rb, 0, none⟩)) ∧ wc.drew.cell? ⟨w.heap.size, 3, none⟩ = some (.int .i64 at_) := ⟨a0, d3⟩
      have HD := Lib.hid (H2.out.frm' (Frm.refl noB wc).drew)
      have FD : Hid (Frm noB wc wc.drew) := Lib.hid (Frm.refl noB wc).drew
      refine wp_region_held_drew (S := fun W => W.cell? ⟨I.bb, 1, none⟩ = some (.pointer (some ⟨I.rb, 0, none⟩)) ∧ W.cell? ⟨w.heap.size, 3, none⟩ = some (.int .i64 at_)) (by kernel_rfl) s1 (fun hHeld => ?_)
      clear a0 d3 hHeld
      generalize wc.drew = wd at *
      refine takeC (i := 0) (.pointer (some ⟨I.bb, 0, none⟩)) rfl (by kernel_rfl) (by kernel_rfl) (by kernel_rfl) (fun _ _ _ h => h) (Or.inl ⟨by rfl, fun w hw => by go_simp⟩) s1 ?_
      try simp only [Act.put, List.setIfInBounds_toArray, List.set_cons_zero, List.set_cons_succ]
      refine takeC (i := 1) (.pointer (some ⟨I.bb, 0, none⟩)) rfl (by kernel_rfl) (by kernel_rfl) (by kernel_rfl) (fun _ _ _ h => h) (Or.inl ⟨by rfl, fun w hw => by go_simp⟩) s1 ?_
      try simp only [Act.put, List.setIfInBounds_toArray, List.set_cons_zero, List.set_cons_succ]
      refine takeC (i := 2) (.pointer (some ⟨I.bb, 1, none⟩)) rfl (by kernel_rfl) (by kernel_rfl) (by kernel_rfl) (fun _ _ _ h => h) (Or.inl ⟨by rfl, fun w hw => by go_simp⟩) s1 ?_
      try simp only [Act.put, List.setIfInBounds_toArray, List.set_cons_zero, List.set_cons_succ]
      refine takeC (i := 3) (.pointer (some ⟨I.rb, 0, none⟩)) rfl (by kernel_rfl) (by kernel_rfl) (by kernel_rfl) (fun _ _ _ h => h) (Or.inl ⟨by rfl, fun w hw => by go_simp⟩) s1 ?_
      try simp only [Act.put, List.setIfInBounds_toArray, List.set_cons_zero, List.set_cons_succ]
      refine takeC (i := 4) (.pointer (some ⟨w.heap.size, 3, none⟩)) rfl (by kernel_rfl) (by kernel_rfl) (by kernel_rfl) (fun _ _ _ h => h) (Or.inl ⟨by rfl, fun w hw => by go_simp⟩) s1 ?_
      try simp only [Act.put, List.setIfInBounds_toArray, List.set_cons_zero, List.set_cons_succ]
      refine takeC (i := 5) (.int .i64 at_) rfl (by kernel_rfl) (by kernel_rfl) (by kernel_rfl) (fun _ _ _ h => h) (Or.inl ⟨by rfl, fun w hw => by go_simp⟩) s1 ?_
      try simp only [Act.put, List.setIfInBounds_toArray, List.set_cons_zero, List.set_cons_succ]
      refine wpAnyH_ready (rs := [6, 10]) (by kernel_rfl) (by simp) ?_
      refine AllReadyH.cons rfl (fun K hK => ?_) (AllReadyH.cons rfl (fun K hK => ?_) AllReadyH.nil)
      · go_simp
        refine (rtick_c HD.out.ref HB.out (by omega) at_).mono ?_
        rintro _ w2 ht
        obtain ⟨_, rfl, _, f2⟩ := ht.resolve_right fun h => hno2 h.1
        have s2 : w2.cell? ⟨I.bb, 1, none⟩ = some (.pointer (some ⟨I.rb, 0, none⟩)) ∧ w2.cell? ⟨w.heap.size, 3, none⟩ = some (.int .i64 at_) := ⟨f2.cell_some s1.1 fun h => h, f2.cell_some s1.2 fun h => h⟩
        clear ht
        have szd := FD.out.size
        have F2 := Lib.hid f2
        clear f2 s1
        try dsimp only
        refine hK.out _ _ s2 (fun hHeld => ?_)
        clear hK K
        try simp only [Act.put, List.setIfInBounds_toArray, List.set_cons_zero, List.set_cons_succ]
        refine takeC (i := 7) (.tuple #[.agg #[.int .i64 0, .int .u64 0, .slice none 0 0, .slice none 0 0], .bool false]) rfl (by kernel_rfl) (by kernel_rfl) (by kernel_rfl) (fun _ _ _ h => h) (Or.inl ⟨by rfl, fun w hw => by go_simp⟩) s2 ?_
        try simp only [Act.put, List.setIfInBounds_toArray, List.set_cons_zero, List.set_cons_succ]
        refine takeC (i := 8) (.agg #[.int .i64 0, .int .u64 0, .slice none 0 0, .slice none 0 0]) rfl (by kernel_rfl) (by kernel_rfl) (by kernel_rfl) (fun _ _ _ h => h) (Or.inl ⟨by rfl, fun w hw => by go_simp⟩) s2 ?_
        try simp only [Act.put, List.setIfInBounds_toArray, List.set_cons_zero, List.set_cons_succ]
        refine takeC (i := 9) (.bool false) rfl (by kernel_rfl) (by kernel_rfl) (by kernel_rfl) (fun _ _ _ h => h) (Or.inl ⟨by rfl, fun w hw => by go_simp⟩) s2 ?_
        try simp only [Act.put, List.setIfInBounds_toArray, List.set_cons_zero, List.set_cons_succ]
        refine consC (i := 10) rfl (by kernel_rfl) (fun K hK => ?_)
        go_simp
        have fa : Frm noB w2 (w2.alloc (.cells #[.int .i64 0, .int .u64 0, .slice none 0 0, .slice none 0 0] 39)) := (Frm.refl _ _).alloc _
        have na : Blk (w2.alloc (.cells #[.int .i64 0, .int .u64 0, .slice none 0 0, .slice none 0 0] 39)) w2.heap.size 39 #[.int .i64 0, .int .u64 0, .slice none 0 0, .slice none 0 0] := Blk.new _ _ _
        have sa : (w2.alloc (.cells #[.int .i64 0, .int .u64 0, .slice none 0 0, .slice none 0 0] 39)).cell? ⟨I.bb, 1, none⟩ = some (.pointer (some ⟨I.rb, 0, none⟩)) ∧ (w2.alloc (.cells #[.int .i64 0, .int .u64 0, .slice none 0 0, .slice none 0 0] 39)).cell? ⟨w.heap.size, 3, none⟩ = some (.int .i64 at_) := ⟨fa.cell_some s2.1 (fun h => h), fa.cell_some s2.2 (fun h => h)⟩
        clear s2
        generalize w2.alloc (.cells #[.int .i64 0, .int .u64 0, .slice none 0 0, .slice none 0 0] 39) = w3 at *
        refine hK.out _ _ sa (fun hHeld => ?_)
        clear hK K
        try simp only [Act.put, List.setIfInBounds_toArray, List.set_cons_zero, List.set_cons_succ]
        have y0 := na.cell 0
        have y1 := na.cell 1
        have y2 := na.cell 2
        have y3 := na.cell 3
        have z0 := na.frozen 0
        have z1 := na.frozen 1
        have z2 := na.frozen 2
        have z3 := na.frozen 3
        simp at y0 y1 y2 y3
        refine consC (i := 11) rfl (by kernel_rfl) (fun K hK => ?_)
        go_simp
        have fz : Frm (isB w2.heap.size) w3 ((((w3.setCell ⟨w2.heap.size, 0, none⟩ (.int .i64 0)).setCell ⟨w2.heap.size, 1, none⟩ (.int .u64 0)).setCell ⟨w2.heap.size, 2, none⟩ (.slice none 0 0)).setCell ⟨w2.heap.size, 3, none⟩ (.slice none 0 0)) := ((((Frm.refl (isB w2.heap.size) w3).setCell (a := ⟨w2.heap.size, 0, none⟩) (.inl (show isB w2.heap.size w2.heap.size from rfl)) _).setCell (a := ⟨w2.heap.size, 1, none⟩) (.inl (show isB w2.heap.size w2.heap.size from rfl)) _).setCell (a := ⟨w2.heap.size, 2, none⟩) (.inl (show isB w2.heap.size w2.heap.size from rfl)) _).setCell (a := ⟨w2.heap.size, 3, none⟩) (.inl (show isB w2.heap.size w2.heap.size from rfl)) _
        have nz := (((na.set_ 0 (.int .i64 0)).set_ 1 (.int .u64 0)).set_ 2 (.slice none 0 0)).set_ 3 (.slice none 0 0)
        simp only [List.setIfInBounds_toArray, List.set_cons_succ, List.set_cons_zero] at nz
        clear y0 y1 y2 y3 z0 z1 z2 z3
        have s4 : ((((w3.setCell ⟨w2.heap.size, 0, none⟩ (.int .i64 0)).setCell ⟨w2.heap.size, 1, none⟩ (.int .u64 0)).setCell ⟨w2.heap.size, 2, none⟩ (.slice none 0 0)).setCell ⟨w2.heap.size, 3, none⟩ (.slice none 0 0)).cell? ⟨I.bb, 1, none⟩ = some (.pointer (some ⟨I.rb, 0, none⟩)) ∧ ((((w3.setCell ⟨w2.heap.size, 0, none⟩ (.int .i64 0)).setCell ⟨w2.heap.size, 1, none⟩ (.int .u64 0)).setCell ⟨w2.heap.size, 2, none⟩ (.slice none 0 0)).setCell ⟨w2.heap.size, 3, none⟩ (.slice none 0 0)).cell? ⟨w.heap.size, 3, none⟩ = some (.int .i64 at_) := ⟨fz.cell_some sa.1 (fun e => by have := HD.out.pl _ (HD.out.p I.bb (by simp)); have : I.bb = w2.heap.size := e; have := F2.out.size; omega), fz.cell_some sa.2 (fun e => by have : w.heap.size = w2.heap.size := e; have := F2.out.size; omega)⟩
        have FA := Lib.hid fa
        have FZ := Lib.hid fz
        have NN := Lib.hid nz
        have hgl : wd.heap.size ≤ w2.heap.size := F2.out.size
        clear fz nz na fa sa
        generalize (((w3.setCell ⟨w2.heap.size, 0, none⟩ (.int .i64 0)).setCell ⟨w2.heap.size, 1, none⟩ (.int .u64 0)).setCell ⟨w2.heap.size, 2, none⟩ (.slice none 0 0)).setCell ⟨w2.heap.size, 3, none⟩ (.slice none 0 0) = w5 at *
        refine hK.out _ _ s4 (fun hHeld => ?_)
        clear hK K
        try simp only [Act.put, List.setIfInBounds_toArray, List.set_cons_zero, List.set_cons_succ]
        refine takeC (i := 12) (.bool false) rfl (by kernel_rfl) (by kernel_rfl) (by kernel_rfl) (fun _ _ _ h => h) (Or.inl ⟨by rfl, fun w hw => by go_simp⟩) s4 ?_
        try simp only [Act.put, List.setIfInBounds_toArray, List.set_cons_zero, List.set_cons_succ]
        refine wpAnyH_done (by kernel_rfl) ?_ _
        clear s4 hHeld
        try go_wp2_with fail
        all_goals go_meet
        all_goals exact ⟨_, rfl, rfl, NN.out, ((FD.out.trans' F2.out).trans' FA.out).trans FZ.out fun q hq e => by have : q = w2.heap.size := e; omega⟩
      · go_simp
        have fa : Frm noB wd (wd.alloc (.cells #[.int .i64 0, .int .u64 0, .slice none 0 0, .slice none 0 0] 39)) := (Frm.refl _ _).alloc _
        have na : Blk (wd.alloc (.cells #[.int .i64 0, .int .u64 0, .slice none 0 0, .slice none 0 0] 39)) wd.heap.size 39 #[.int .i64 0, .int .u64 0, .slice none 0 0, .slice none 0 0] := Blk.new _ _ _
        have HA := Lib.hid (HD.out.frm' fa)
        have s0 : (wd.alloc (.cells #[.int .i64 0, .int .u64 0, .slice none 0 0, .slice none 0 0] 39)).cell? ⟨I.bb, 1, none⟩ = some (.pointer (some ⟨I.rb, 0, none⟩)) ∧ (wd.alloc (.cells #[.int .i64 0, .int .u64 0, .slice none 0 0, .slice none 0 0] 39)).cell? ⟨w.heap.size, 3, none⟩ = some (.int .i64 at_) := ⟨fa.cell_some s1.1 (fun h => h), fa.cell_some s1.2 (fun h => h)⟩
        have szd := FD.out.size
        have hga : wd.heap.size < (wd.alloc (.cells #[.int .i64 0, .int .u64 0, .slice none 0 0, .slice none 0 0] 39)).heap.size := na.lt
        clear s1
        generalize wd.alloc (.cells #[.int .i64 0, .int .u64 0, .slice none 0 0, .slice none 0 0] 39) = wa at *
        refine hK.out _ _ s0 (fun hHeld => ?_)
        clear hK K
        try simp only [Act.put, List.setIfInBounds_toArray, List.set_cons_zero, List.set_cons_succ]
        refine consC (i := 6) rfl (by kernel_rfl) (fun K hK => ?_)
        go_simp
        refine (rtick_c HA.out.ref HB.out (by omega) at_).mono ?_
        rintro _ w2 ht
        obtain ⟨_, rfl, _, f2⟩ := ht.resolve_right fun h => hno2 h.1
        have s2 : w2.cell? ⟨I.bb, 1, none⟩ = some (.pointer (some ⟨I.rb, 0, none⟩)) ∧ w2.cell? ⟨w.heap.size, 3, none⟩ = some (.int .i64 at_) := ⟨f2.cell_some s0.1 fun h => h, f2.cell_some s0.2 fun h => h⟩
        clear ht
        have NA := Lib.hid (na.frm f2 (fun h => h))
        have F2 := Lib.hid f2
        have FA := Lib.hid fa
        clear f2 s0 na fa
        try dsimp only
        refine hK.out _ _ s2 (fun hHeld => ?_)
        clear hK K
        try simp only [Act.put, List.setIfInBounds_toArray, List.set_cons_zero, List.set_cons_succ]
        refine takeC (i := 7) (.tuple #[.agg #[.int .i64 0, .int .u64 0, .slice none 0 0, .slice none 0 0], .bool false]) rfl (by kernel_rfl) (by kernel_rfl) (by kernel_rfl) (fun _ _ _ h => h) (Or.inl ⟨by rfl, fun w hw => by go_simp⟩) s2 ?_
        try simp only [Act.put, List.setIfInBounds_toArray, List.set_cons_zero, List.set_cons_succ]
        refine takeC (i := 8) (.agg #[.int .i64 0, .int .u64 0, .slice none 0 0, .slice none 0 0]) rfl (by kernel_rfl) (by kernel_rfl) (by kernel_rfl) (fun _ _ _ h => h) (Or.inl ⟨by rfl, fun w hw => by go_simp⟩) s2 ?_
        try simp only [Act.put, List.setIfInBounds_toArray, List.set_cons_zero, List.set_cons_succ]
        refine takeC (i := 9) (.bool false) rfl (by kernel_rfl) (by kernel_rfl) (by kernel_rfl) (fun _ _ _ h => h) (Or.inl ⟨by rfl, fun w hw => by go_simp⟩) s2 ?_
        try simp only [Act.put, List.setIfInBounds_toArray, List.set_cons_zero, List.set_cons_succ]
        have y0 := NA.out.cell 0
        have y1 := NA.out.cell 1
        have y2 := NA.out.cell 2
        have y3 := NA.out.cell 3
        have z0 := NA.out.frozen 0
        have z1 := NA.out.frozen 1
        have z2 := NA.out.frozen 2
        have z3 := NA.out.frozen 3
        simp at y0 y1 y2 y3
        refine consC (i := 11) rfl (by kernel_rfl) (fun K hK => ?_)
        go_simp
        have fz : Frm (isB wd.heap.size) w2 ((((w2.setCell ⟨wd.heap.size, 0, none⟩ (.int .i64 0)).setCell ⟨wd.heap.size, 1, none⟩ (.int .u64 0)).setCell ⟨wd.heap.size, 2, none⟩ (.slice none 0 0)).setCell ⟨wd.heap.size, 3, none⟩ (.slice none 0 0)) := ((((Frm.refl (isB wd.heap.size) w2).setCell (a := ⟨wd.heap.size, 0, none⟩) (.inl (show isB wd.heap.size wd.heap.size from rfl)) _).setCell (a := ⟨wd.heap.size, 1, none⟩) (.inl (show isB wd.heap.size wd.heap.size from rfl)) _).setCell (a := ⟨wd.heap.size, 2, none⟩) (.inl (show isB wd.heap.size wd.heap.size from rfl)) _).setCell (a := ⟨wd.heap.size, 3, none⟩) (.inl (show isB wd.heap.size wd.heap.size from rfl)) _
        have nz := (((NA.out.set_ 0 (.int .i64 0)).set_ 1 (.int .u64 0)).set_ 2 (.slice none 0 0)).set_ 3 (.slice none 0 0)
        simp only [List.setIfInBounds_toArray, List.set_cons_succ, List.set_cons_zero] at nz
        clear y0 y1 y2 y3 z0 z1 z2 z3
        have s4 : ((((w2.setCell ⟨wd.heap.size, 0, none⟩ (.int .i64 0)).setCell ⟨wd.heap.size, 1, none⟩ (.int .u64 0)).setCell ⟨wd.heap.size, 2, none⟩ (.slice none 0 0)).setCell ⟨wd.heap.size, 3, none⟩ (.slice none 0 0)).cell? ⟨I.bb, 1, none⟩ = some (.pointer (some ⟨I.rb, 0, none⟩)) ∧ ((((w2.setCell ⟨wd.heap.size, 0, none⟩ (.int .i64 0)).setCell ⟨wd.heap.size, 1, none⟩ (.int .u64 0)).setCell ⟨wd.heap.size, 2, none⟩ (.slice none 0 0)).setCell ⟨wd.heap.size, 3, none⟩ (.slice none 0 0)).cell? ⟨w.heap.size, 3, none⟩ = some (.int .i64 at_) := ⟨fz.cell_some s2.1 (fun e => by have := HD.out.pl _ (HD.out.p I.bb (by simp)); have : I.bb = wd.heap.size := e; omega), fz.cell_some s2.2 (fun e => by have : w.heap.size = wd.heap.size := e; omega)⟩
        have FZ := Lib.hid fz
        have NN := Lib.hid nz
        have hgl := hga
        clear fz nz s2
        generalize (((w2.setCell ⟨wd.heap.size, 0, none⟩ (.int .i64 0)).setCell ⟨wd.heap.size, 1, none⟩ (.int .u64 0)).setCell ⟨wd.heap.size, 2, none⟩ (.slice none 0 0)).setCell ⟨wd.heap.size, 3, none⟩ (.slice none 0 0) = w5 at *
        refine hK.out _ _ s4 (fun hHeld => ?_)
        clear hK K
        try simp only [Act.put, List.setIfInBounds_toArray, List.set_cons_zero, List.set_cons_succ]
        refine takeC (i := 12) (.bool false) rfl (by kernel_rfl) (by kernel_rfl) (by kernel_rfl) (fun _ _ _ h => h) (Or.inl ⟨by rfl, fun w hw => by go_simp⟩) s4 ?_
        try simp only [Act.put, List.setIfInBounds_toArray, List.set_cons_zero, List.set_cons_succ]
        refine wpAnyH_done (by kernel_rfl) ?_ _
        clear s4 hHeld
        try go_wp2_with fail
        all_goals go_meet
        all_goals exact ⟨_, rfl, rfl, NN.out, ((FD.out.trans' FA.out).trans' F2.out).trans FZ.out fun q hq e => by have : q = wd.heap.size := e; omega⟩
    case rest =>
      obtain ⟨gU, rfl, rfl, nU, f3⟩ := hcut
      have M3 := Lib.hid (H2.out.frm' f3)
      have NT3 := Lib.hid (NT.out.frm' f3)
      have NU := Lib.hid nU
      have F3 := Lib.hid (F2.out.trans' f3)
      clear nU f3 NT F2 H2 B2
      have y0 := NT3.out.cell 0
      have y1 := NT3.out.cell 1
      have y2 := NT3.out.cell 2
      have y3 := NT3.out.cell 3
      have x0 := NU.out.cell 0
      have x1 := NU.out.cell 1
      have x2 := NU.out.cell 2
      have x3 := NU.out.cell 3
      simp at y0 y1 y2 y3 x0 x1 x2 x3
      go_wp2_with fail
      refine (sameB_0 _).mono ?_
      rintro _ w6 ⟨rfl, f6⟩
      have M6 := Lib.hid (M3.out.frm' f6)
      have F6 := Lib.hid (F3.out.trans' f6)
      clear f6 y0 y1 y2 y3 x0 x1 x2 x3
      try dsimp only
      go_wp2_with fail
      go_ret
      exact ⟨rfl, StepTo.stay M6.out HR.out HB.out F6.out.any PL.out⟩
end
end Go.Proofs.Ytjnoddbhfcpniaa
