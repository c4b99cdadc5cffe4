/-
  EntryPlays: the law's made.
-/
import Derived.Test.YtjnoddbhfcpniaaStepAll
namespace Go.Proofs.Ytjnoddbhfcpniaa
open Go.RowKit
open Go.BigFrame
set_option linter.unusedVariables false
set_option linter.unusedSimpArgs false

theorem mkSizes (w : World) (z1 z2 : Int) (ab : Nat) : Calls Try.prog 33 #[.agg #[.int .i64 z1, .int .i64 z2], .pointer (some ⟨ab, 0, none⟩)] w fun e w' => ∃ lb xb, e = .returned (.func (.func 42) #[] #[.pointer (some ⟨xb, 0, none⟩), .pointer (some ⟨lb, 0, none⟩)]) ∧
    Blk w' lb 55 #[.int .i64 z1, .int .i64 z2] ∧ Blk w' xb 63 #[.pointer (some ⟨ab, 0, none⟩)] ∧ w.heap.size ≤ lb ∧ w.heap.size ≤ xb ∧ Frm noB w w' := by
  have s1 : (w.alloc (.cells #[.int .i64 z1, .int .i64 z2] 55)).heap.size = w.heap.size + 1 := by simp
  have hB : Blk ((w.alloc (.cells #[.int .i64 z1, .int .i64 z2] 55)).alloc (.cells #[.pointer (some ⟨ab, 0, none⟩)] 63)) w.heap.size 55 #[.int .i64 z1, .int .i64 z2] := (Blk.new _ _ _).alloc _
  have hX : Blk ((w.alloc (.cells #[.int .i64 z1, .int .i64 z2] 55)).alloc (.cells #[.pointer (some ⟨ab, 0, none⟩)] 63)) (w.heap.size + 1) 63 #[.pointer (some ⟨ab, 0, none⟩)] := by rw [← s1]; exact Blk.new _ _ _
  have hf : Frm noB w ((w.alloc (.cells #[.int .i64 z1, .int .i64 z2] 55)).alloc (.cells #[.pointer (some ⟨ab, 0, none⟩)] 63)) := ((Frm.refl _ _).alloc _).alloc _
  have HB := Lib.hid hB
  have HX := Lib.hid hX
  have HF := Lib.hid hf
  clear hB hX hf s1
  go_enter Try.func33, Try.ntmps33
  go_wp2
  go_ret
  exact ⟨_, _, rfl, HB.out, HX.out, Nat.le_refl _, Nat.le_succ _, HF.out⟩
def okE (c m : Int) : Prop := 1 ≤ c ∧ c ≤ 64 ∧ 1 ≤ m ∧ m ≤ 256
/-- what made hands back: a pair, or none (refused) -/
def Made (w w' : World) (bb : Nat) (z1 z2 c m : Int) : Prop :=
  (¬ okE c m ∧ ∃ ab, Blk w' bb 65 #[.pointer none, .pointer none, .pointer (some ⟨ab, 0, none⟩), .int .i64 0] ∧ Blk w' ab 70 #[.int .i64 0] ∧ w.heap.size ≤ bb ∧ w.heap.size ≤ ab) ∨
  (okE c m ∧ ∃ I F G P, I.bb = bb ∧ PrM w' I F G P (es0 c m) (rs0 z1 z2 c m) 0 0 ∧ ∀ k, P k → w.heap.size ≤ k)
set_option maxRecDepth 100000 in
set_option maxHeartbeats 400000 in
theorem made_any (z1 z2 c m : Int) (As : Option Addr) (sn cs : Nat) (w : World) :
    Calls Try.prog 27 #[.agg #[.int .i64 z1, .int .i64 z2, .int .i64 c, .int .i64 m, .slice As sn cs]] w fun e w' => ∃ bb, e = .returned (.tuple #[.pointer (some ⟨bb, 0, none⟩), .bool true]) ∧ Frm noB w w' ∧ Made w w' bb z1 z2 c m := by
  have b1 : Blk (w.alloc (.cells #[.int .i64 z1, .int .i64 z2, .int .i64 c, .int .i64 m, .slice As sn cs] 58)) w.heap.size 58 #[.int .i64 z1, .int .i64 z2, .int .i64 c, .int .i64 m, .slice As sn cs] := Blk.new _ _ _
  have f1 : Frm noB w (w.alloc (.cells #[.int .i64 z1, .int .i64 z2, .int .i64 c, .int .i64 m, .slice As sn cs] 58)) := (Frm.refl _ _).alloc _
  have hsz : w.heap.size < (w.alloc (.cells #[.int .i64 z1, .int .i64 z2, .int .i64 c, .int .i64 m, .slice As sn cs] 58)).heap.size := b1.lt
  have B1 := Lib.hid b1
  have F1 := Lib.hid f1
  clear b1 f1
  go_enter Try.func27, Try.ntmps27
  go_upto_region 1 with fail
  generalize w.alloc (.cells #[.int .i64 z1, .int .i64 z2, .int .i64 c, .int .i64 m, .slice As sn cs] 58) = w1 at *
  have s2 : (w1.alloc (.cells #[.int .i64 0] 70)).heap.size = w1.heap.size + 1 := by simp
  have n2 : Blk ((w1.alloc (.cells #[.int .i64 0] 70)).alloc (.cells #[.pointer none, .pointer none, .pointer (some ⟨w1.heap.size, 0, none⟩), .int .i64 0] 65)) w1.heap.size 70 #[.int .i64 0] := (Blk.new _ _ _).alloc _
  have n3 : Blk ((w1.alloc (.cells #[.int .i64 0] 70)).alloc (.cells #[.pointer none, .pointer none, .pointer (some ⟨w1.heap.size, 0, none⟩), .int .i64 0] 65)) (w1.heap.size + 1) 65 #[.pointer none, .pointer none, .pointer (some ⟨w1.heap.size, 0, none⟩), .int .i64 0] := by rw [← s2]; exact Blk.new _ _ _
  have f2 : Frm noB w1 ((w1.alloc (.cells #[.int .i64 0] 70)).alloc (.cells #[.pointer none, .pointer none, .pointer (some ⟨w1.heap.size, 0, none⟩), .int .i64 0] 65)) := ((Frm.refl _ _).alloc _).alloc _
  have N2 := Lib.hid n2
  have N3 := Lib.hid n3
  have F2 := Lib.hid f2
  have B2 := Lib.hid (B1.out.frm' f2)
  clear n2 n3 f2 s2 B1
  go_upto_region 2 with fail
  generalize (w1.alloc (.cells #[.int .i64 0] 70)).alloc (.cells #[.pointer none, .pointer none, .pointer (some ⟨w1.heap.size, 0, none⟩), .int .i64 0] 65) = w2 at *
  have d0 := B2.out.cell 0
  have d1 := B2.out.cell 1
  have d2 := B2.out.cell 2
  have d3 := B2.out.cell 3
  have a2 := N3.out.cell 2
  simp at d0 d1 d2 d3 a2
  have s1 : w2.drew.cell? ⟨w.heap.size, 0, none⟩ = some (.int .i64 z1) ∧ w2.drew.cell? ⟨w.heap.size, 1, none⟩ = some (.int .i64 z2) ∧ w2.drew.cell? ⟨w.heap.size, 2, none⟩ = some (.int .i64 c) ∧ w2.drew.cell? ⟨w.heap.size, 3, none⟩ = some (.int .i64 m) ∧ w2.drew.cell? ⟨w1.heap.size + 1, 2, none⟩ = some (.pointer (some ⟨w1.heap.size, 0, none⟩)) := ⟨d0, d1, d2, d3, a2⟩
  have FD := Lib.hid (Frm.refl noB w2).drew
  refine wp_region_held_drew (S := fun W => W.cell? ⟨w.heap.size, 0, none⟩ = some (.int .i64 z1) ∧ W.cell? ⟨w.heap.size, 1, none⟩ = some (.int .i64 z2) ∧ W.cell? ⟨w.heap.size, 2, none⟩ = some (.int .i64 c) ∧ W.cell? ⟨w.heap.size, 3, none⟩ = some (.int .i64 m) ∧ W.cell? ⟨w1.heap.size + 1, 2, none⟩ = some (.pointer (some ⟨w1.heap.size, 0, none⟩))) (by kernel_rfl) s1 (fun hHeld => ?_)
  clear d0 d1 d2 d3 a2 hHeld
  generalize w2.drew = w3 at *
  refine takeC (i := 0) (.pointer (some ⟨w.heap.size, 0, none⟩)) rfl (by kernel_rfl) (by kernel_rfl) (by kernel_rfl) (fun _ _ _ h => h) (Or.inl ⟨by rfl, fun w hw => by go_simp⟩) s1 ?_
  try simp only [Act.put, List.setIfInBounds_toArray, List.set_cons_zero, List.set_cons_succ]
  refine takeC (i := 1) (.agg #[.int .i64 z1, .int .i64 z2]) rfl (by kernel_rfl) (by kernel_rfl) (by kernel_rfl) (fun _ _ _ h => h) (Or.inl ⟨by rfl, fun w hw => by go_simp⟩) s1 ?_
  try simp only [Act.put, List.setIfInBounds_toArray, List.set_cons_zero, List.set_cons_succ]
  refine takeC (i := 2) (.pointer (some ⟨w1.heap.size + 1, 0, none⟩)) rfl (by kernel_rfl) (by kernel_rfl) (by kernel_rfl) (fun _ _ _ h => h) (Or.inl ⟨by rfl, fun w hw => by go_simp⟩) s1 ?_
  try simp only [Act.put, List.setIfInBounds_toArray, List.set_cons_zero, List.set_cons_succ]
  refine takeC (i := 3) (.pointer (some ⟨w1.heap.size + 1, 0, none⟩)) rfl (by kernel_rfl) (by kernel_rfl) (by kernel_rfl) (fun _ _ _ h => h) (Or.inl ⟨by rfl, fun w hw => by go_simp⟩) s1 ?_
  try simp only [Act.put, List.setIfInBounds_toArray, List.set_cons_zero, List.set_cons_succ]
  refine takeC (i := 4) (.pointer (some ⟨w1.heap.size + 1, 2, none⟩)) rfl (by kernel_rfl) (by kernel_rfl) (by kernel_rfl) (fun _ _ _ h => h) (Or.inl ⟨by rfl, fun w hw => by go_simp⟩) s1 ?_
  try simp only [Act.put, List.setIfInBounds_toArray, List.set_cons_zero, List.set_cons_succ]
  refine takeC (i := 5) (.pointer (some ⟨w1.heap.size, 0, none⟩)) rfl (by kernel_rfl) (by kernel_rfl) (by kernel_rfl) (fun _ _ _ h => h) (Or.inl ⟨by rfl, fun w hw => by go_simp⟩) s1 ?_
  try simp only [Act.put, List.setIfInBounds_toArray, List.set_cons_zero, List.set_cons_succ]
  refine takeC (i := 7) (.pointer (some ⟨w.heap.size, 2, none⟩)) rfl (by kernel_rfl) (by kernel_rfl) (by kernel_rfl) (fun _ _ _ h => h) (Or.inl ⟨by rfl, fun w hw => by go_simp⟩) s1 ?_
  try simp only [Act.put, List.setIfInBounds_toArray, List.set_cons_zero, List.set_cons_succ]
  refine takeC (i := 8) (.int .i64 c) rfl (by kernel_rfl) (by kernel_rfl) (by kernel_rfl) (fun _ _ _ h => h) (Or.inl ⟨by rfl, fun w hw => by go_simp⟩) s1 ?_
  try simp only [Act.put, List.setIfInBounds_toArray, List.set_cons_zero, List.set_cons_succ]
  refine takeC (i := 9) (.pointer (some ⟨w.heap.size, 3, none⟩)) rfl (by kernel_rfl) (by kernel_rfl) (by kernel_rfl) (fun _ _ _ h => h) (Or.inl ⟨by rfl, fun w hw => by go_simp⟩) s1 ?_
  try simp only [Act.put, List.setIfInBounds_toArray, List.set_cons_zero, List.set_cons_succ]
  refine takeC (i := 10) (.int .i64 m) rfl (by kernel_rfl) (by kernel_rfl) (by kernel_rfl) (fun _ _ _ h => h) (Or.inl ⟨by rfl, fun w hw => by go_simp⟩) s1 ?_
  try simp only [Act.put, List.setIfInBounds_toArray, List.set_cons_zero, List.set_cons_succ]
  refine consC (i := 6) rfl (by kernel_rfl) (fun K hK => ?_)
  go_simp
  refine (mkSizes w3 z1 z2 w1.heap.size).mono ?_
  rintro _ w4 ⟨lb, xb, rfl, hl, hx, hlb, hxb, f4⟩
  have s4 : w4.cell? ⟨w.heap.size, 0, none⟩ = some (.int .i64 z1) ∧ w4.cell? ⟨w.heap.size, 1, none⟩ = some (.int .i64 z2) ∧ w4.cell? ⟨w.heap.size, 2, none⟩ = some (.int .i64 c) ∧ w4.cell? ⟨w.heap.size, 3, none⟩ = some (.int .i64 m) ∧ w4.cell? ⟨w1.heap.size + 1, 2, none⟩ = some (.pointer (some ⟨w1.heap.size, 0, none⟩)) := ⟨f4.cell_some s1.1 fun h => h, f4.cell_some s1.2.1 fun h => h, f4.cell_some s1.2.2.1 fun h => h, f4.cell_some s1.2.2.2.1 fun h => h, f4.cell_some s1.2.2.2.2 fun h => h⟩
  have F4 := Lib.hid (FD.out.trans' f4)
  have L4 := Lib.hid hl
  have X4 := Lib.hid hx
  clear hl hx f4 s1
  try dsimp only
  refine hK.out _ _ s4 (fun hHeld => ?_)
  clear hK K
  try simp only [Act.put, List.setIfInBounds_toArray, List.set_cons_zero, List.set_cons_succ]
  refine consC (i := 11) rfl (by kernel_rfl) (fun K hK => ?_)
  go_simp
  by_cases hok : okE c m
  · refine (new_c (.func 42) #[.pointer (some ⟨xb, 0, none⟩), .pointer (some ⟨lb, 0, none⟩)] c m w4 hok).mono ?_
    rintro _ w5 ⟨eb, F, rfl, hE, hFn, f5⟩
    have s5 : w5.cell? ⟨w.heap.size, 0, none⟩ = some (.int .i64 z1) ∧ w5.cell? ⟨w.heap.size, 1, none⟩ = some (.int .i64 z2) ∧ w5.cell? ⟨w.heap.size, 2, none⟩ = some (.int .i64 c) ∧ w5.cell? ⟨w.heap.size, 3, none⟩ = some (.int .i64 m) ∧ w5.cell? ⟨w1.heap.size + 1, 2, none⟩ = some (.pointer (some ⟨w1.heap.size, 0, none⟩)) := ⟨f5.cell_some s4.1 fun h => h, f5.cell_some s4.2.1 fun h => h, f5.cell_some s4.2.2.1 fun h => h, f5.cell_some s4.2.2.2.1 fun h => h, f5.cell_some s4.2.2.2.2 fun h => h⟩
    have F5 := Lib.hid (F4.out.trans' f5)
    have hs45 := f5.size
    have L5 := Lib.hid (L4.out.frm' f5)
    have X5 := Lib.hid (X4.out.frm' f5)
    have E5 := Lib.hid hE
    have FN := Lib.hid hFn
    clear hE hFn f5 s4
    try dsimp only
    refine hK.out _ _ s5 (fun hHeld => ?_)
    clear hK K
    try simp only [Act.put, List.setIfInBounds_toArray, List.set_cons_zero, List.set_cons_succ]
    refine takeC (i := 12) (.tuple #[.pointer (some ⟨eb, 0, none⟩), .int .i64 0]) rfl (by kernel_rfl) (by kernel_rfl) (by kernel_rfl) (fun _ _ _ h => h) (Or.inl ⟨by rfl, fun w hw => by go_simp⟩) s5 ?_
    try simp only [Act.put, List.setIfInBounds_toArray, List.set_cons_zero, List.set_cons_succ]
    refine takeC (i := 13) (.pointer (some ⟨eb, 0, none⟩)) rfl (by kernel_rfl) (by kernel_rfl) (by kernel_rfl) (fun _ _ _ h => h) (Or.inl ⟨by rfl, fun w hw => by go_simp⟩) s5 ?_
    try simp only [Act.put, List.setIfInBounds_toArray, List.set_cons_zero, List.set_cons_succ]
    refine takeC (i := 14) (.int .i64 0) rfl (by kernel_rfl) (by kernel_rfl) (by kernel_rfl) (fun _ _ _ h => h) (Or.inl ⟨by rfl, fun w hw => by go_simp⟩) s5 ?_
    try simp only [Act.put, List.setIfInBounds_toArray, List.set_cons_zero, List.set_cons_succ]
    refine takeC (i := 15) (.pointer (some ⟨eb, 0, none⟩)) rfl (by kernel_rfl) (by kernel_rfl) (by kernel_rfl) (fun _ _ _ h => h) (Or.inl ⟨by rfl, fun w hw => by go_simp⟩) s5 ?_
    try simp only [Act.put, List.setIfInBounds_toArray, List.set_cons_zero, List.set_cons_succ]
    refine takeC (i := 16) (.int .i64 0) rfl (by kernel_rfl) (by kernel_rfl) (by kernel_rfl) (fun _ _ _ h => h) (Or.inl ⟨by rfl, fun w hw => by go_simp⟩) s5 ?_
    try simp only [Act.put, List.setIfInBounds_toArray, List.set_cons_zero, List.set_cons_succ]
    refine wpAnyH_done (by kernel_rfl) ?_ _
    clear s5 hHeld
    have B5 := Lib.hid (B2.out.frm' F5.out)
    have N25 := Lib.hid (N2.out.frm' F5.out)
    have N35 := Lib.hid (N3.out.frm' F5.out)
    have d0 := B5.out.cell 0
    have d1 := B5.out.cell 1
    have d2 := B5.out.cell 2
    have d3 := B5.out.cell 3
    simp at d0 d1 d2 d3
    go_wp2_with fail
    refine (rnew_yes z1 z2 c m w5 hok).mono ?_
    rintro _ w6 ⟨rb, rfl, hR, hrb, f6⟩
    have N26 := Lib.hid (N25.out.frm' f6)
    have N36 := Lib.hid (N35.out.frm' f6)
    have L6 := Lib.hid (L5.out.frm' f6)
    have X6 := Lib.hid (X5.out.frm' f6)
    have E6 := Lib.hid (E5.out.frm' f6)
    have R6 := Lib.hid hR
    have F6 := Lib.hid (F5.out.trans' f6)
    have hs56 := f6.size
    have y0 := N36.out.cell 0
    have y1 := N36.out.cell 1
    have y2 := N36.out.cell 2
    have z0 := N36.out.frozen 0
    have z1' := N36.out.frozen 1
    simp at y0 y1 y2
    have B7 := (N36.out.set_ 0 (.pointer (some ⟨eb, 0, none⟩))).set_ 1 (.pointer (some ⟨rb, 0, none⟩))
    simp only [List.setIfInBounds_toArray, List.set_cons_succ, List.set_cons_zero] at B7
    have f7 : Frm (isB (w1.heap.size + 1)) w6 ((w6.setCell ⟨w1.heap.size + 1, 0, none⟩ (.pointer (some ⟨eb, 0, none⟩))).setCell ⟨w1.heap.size + 1, 1, none⟩ (.pointer (some ⟨rb, 0, none⟩))) := ((Frm.refl _ w6).setCell (a := ⟨w1.heap.size + 1, 0, none⟩) (.inl (show isB (w1.heap.size + 1) (w1.heap.size + 1) from rfl)) _).setCell (a := ⟨w1.heap.size + 1, 1, none⟩) (.inl (show isB (w1.heap.size + 1) (w1.heap.size + 1) from rfl)) _
    have HB7 := Lib.hid B7
    have F7 := Lib.hid f7
    clear hR f6 B7 f7 d0 d1 d2 d3
    try dsimp only
    go_upto_region 6 with fail
    generalize (w6.setCell ⟨w1.heap.size + 1, 0, none⟩ (.pointer (some ⟨eb, 0, none⟩))).setCell ⟨w1.heap.size + 1, 1, none⟩ (.pointer (some ⟨rb, 0, none⟩)) = w7 at *
    have N27 := Lib.hid (N26.out.frm F7.out fun e => by have : w1.heap.size = w1.heap.size + 1 := e; omega)
    have x2 := HB7.out.cell 2
    have x0 := N27.out.cell 0
    simp at x2 x0
    clear y0 y1 y2 z0 z1'
    go_quiet (fail)
    go_wp2_with fail
    go_ret2
    have l1 := F2.out.size
    have l2 : w1.heap.size + 1 < w2.heap.size := N3.out.lt
    have l3 := FD.out.size
    have l4 := L4.out.lt
    have l5 := X4.out.lt
    have l6 : w4.heap.size ≤ w5.heap.size := hs45
    have l7 : w5.heap.size ≤ w6.heap.size := hs56
    have l8 := F7.out.size
    have l9 : rb < w6.heap.size := R6.out.lt rb rfl
    have le := E5.out.lt
    have fn := FN.out
    have PRM : PrM w7 ⟨w1.heap.size + 1, eb, rb, w1.heap.size, lb, xb⟩ F (fun k => k = rb) (fun k => w.heap.size ≤ k ∧ k < w7.heap.size) (es0 c m) (rs0 z1 z2 c m) 0 0 :=
      ⟨HB7.out, N27.out, L6.out.frm F7.out fun e => by have : lb = w1.heap.size + 1 := e; omega, X6.out.frm F7.out fun e => by have : xb = w1.heap.size + 1 := e; omega,
        E6.out.frm F7.out fun k hk e => by have := fn k hk; have : k = w1.heap.size + 1 := e; omega, R6.out.frm F7.out fun k hk e => by have : k = w1.heap.size + 1 := e; omega,
        fun k hk hk' => by have := le k hk; omega,
        fun k hk => by
          have hk1 : w4.heap.size ≤ k := by
            rcases hk with hk | hk
            · exact fn k hk
            · omega
          refine ⟨?_, ?_, ?_, ?_⟩
          · show k ≠ w1.heap.size + 1; omega
          · show k ≠ w1.heap.size; omega
          · show k ≠ lb; omega
          · show k ≠ xb; omega,
        fun k hk => by
          rcases hk with hk | hk | hk | hk | hk | hk
          · have := fn k hk; have := le k hk; exact ⟨by omega, by omega⟩
          · exact ⟨by omega, by omega⟩
          · have : k = w1.heap.size + 1 := hk
            exact ⟨by omega, by omega⟩
          · have : k = w1.heap.size := hk
            exact ⟨by omega, by omega⟩
          · have : k = lb := hk
            exact ⟨by omega, by omega⟩
          · have : k = xb := hk
            exact ⟨by omega, by omega⟩, fun k hk => hk.2⟩
    exact ⟨_, rfl, ((((F1.out.trans' F2.out).trans' F6.out).trans F7.out fun k hk e => by have : k = w1.heap.size + 1 := e; omega).drewN _), .inr ⟨hok, _, _, _, _, rfl, PRM.frm' (Frm.of_drewN noB w7 _), fun k hk => hk.1⟩⟩
  · refine (new_no (.func (.func 42) #[] #[.pointer (some ⟨xb, 0, none⟩), .pointer (some ⟨lb, 0, none⟩)]) c m w4 (by unfold okE at hok; omega)).mono ?_
    rintro _ w5 ⟨rfl, rfl⟩
    try dsimp only
    refine hK.out _ _ s4 (fun hHeld => ?_)
    clear hK K
    try simp only [Act.put, List.setIfInBounds_toArray, List.set_cons_zero, List.set_cons_succ]
    refine takeC (i := 12) (.tuple #[.pointer none, .int .i64 2]) rfl (by kernel_rfl) (by kernel_rfl) (by kernel_rfl) (fun _ _ _ h => h) (Or.inl ⟨by rfl, fun w hw => by go_simp⟩) s4 ?_
    try simp only [Act.put, List.setIfInBounds_toArray, List.set_cons_zero, List.set_cons_succ]
    refine takeC (i := 13) (.pointer none) rfl (by kernel_rfl) (by kernel_rfl) (by kernel_rfl) (fun _ _ _ h => h) (Or.inl ⟨by rfl, fun w hw => by go_simp⟩) s4 ?_
    try simp only [Act.put, List.setIfInBounds_toArray, List.set_cons_zero, List.set_cons_succ]
    refine takeC (i := 14) (.int .i64 2) rfl (by kernel_rfl) (by kernel_rfl) (by kernel_rfl) (fun _ _ _ h => h) (Or.inl ⟨by rfl, fun w hw => by go_simp⟩) s4 ?_
    try simp only [Act.put, List.setIfInBounds_toArray, List.set_cons_zero, List.set_cons_succ]
    refine takeC (i := 15) (.pointer none) rfl (by kernel_rfl) (by kernel_rfl) (by kernel_rfl) (fun _ _ _ h => h) (Or.inl ⟨by rfl, fun w hw => by go_simp⟩) s4 ?_
    try simp only [Act.put, List.setIfInBounds_toArray, List.set_cons_zero, List.set_cons_succ]
    refine takeC (i := 16) (.int .i64 2) rfl (by kernel_rfl) (by kernel_rfl) (by kernel_rfl) (fun _ _ _ h => h) (Or.inl ⟨by rfl, fun w hw => by go_simp⟩) s4 ?_
    try simp only [Act.put, List.setIfInBounds_toArray, List.set_cons_zero, List.set_cons_succ]
    refine wpAnyH_done (by kernel_rfl) ?_ _
    clear s4 hHeld
    have hno : c < 1 ∨ 64 < c ∨ m < 1 ∨ 256 < m := by unfold okE at hok; omega
    have B5 := Lib.hid (B2.out.frm' F4.out)
    have N25 := Lib.hid (N2.out.frm' F4.out)
    have N35 := Lib.hid (N3.out.frm' F4.out)
    have d0 := B5.out.cell 0
    have d1 := B5.out.cell 1
    have d2 := B5.out.cell 2
    have d3 := B5.out.cell 3
    simp at d0 d1 d2 d3
    have HOK := Lib.hid hok
    have HNO := Lib.hid hno
    clear hok hno
    go_wp2_with fail
    refine (rnew_no z1 z2 c m _ HNO.out).mono ?_
    rintro _ w6 ⟨rfl, f6⟩
    have N26 := Lib.hid (N25.out.frm' f6)
    have N36 := Lib.hid (N35.out.frm' f6)
    have F6 := Lib.hid (F4.out.trans' f6)
    have y0 := N36.out.cell 0
    have y1 := N36.out.cell 1
    have z0 := N36.out.frozen 0
    have z1' := N36.out.frozen 1
    simp at y0 y1
    have B7 := (N36.out.set_ 0 (.pointer none)).set_ 1 (.pointer none)
    simp only [List.setIfInBounds_toArray, List.set_cons_succ, List.set_cons_zero] at B7
    have f7 : Frm (isB (w1.heap.size + 1)) w6 ((w6.setCell ⟨w1.heap.size + 1, 0, none⟩ (.pointer none)).setCell ⟨w1.heap.size + 1, 1, none⟩ (.pointer none)) := ((Frm.refl _ w6).setCell (a := ⟨w1.heap.size + 1, 0, none⟩) (.inl (show isB (w1.heap.size + 1) (w1.heap.size + 1) from rfl)) _).setCell (a := ⟨w1.heap.size + 1, 1, none⟩) (.inl (show isB (w1.heap.size + 1) (w1.heap.size + 1) from rfl)) _
    have HB7 := Lib.hid B7
    have F7 := Lib.hid f7
    clear f6 B7 f7 d0 d1 d2 d3
    try dsimp only
    go_upto_region 6 with fail
    generalize (w6.setCell ⟨w1.heap.size + 1, 0, none⟩ (.pointer none)).setCell ⟨w1.heap.size + 1, 1, none⟩ (.pointer none) = w7 at *
    have N27 := Lib.hid (N26.out.frm F7.out fun e => by have : w1.heap.size = w1.heap.size + 1 := e; omega)
    have x2 := HB7.out.cell 2
    have x0 := N27.out.cell 0
    simp at x2 x0
    clear y0 y1 z0 z1'
    go_quiet (fail)
    go_wp2_with fail
    go_ret2
    exact ⟨_, rfl, ((((F1.out.trans' F2.out).trans' F6.out).trans F7.out fun k hk e => by have : k = w1.heap.size + 1 := e; omega).drewN _), .inl ⟨HOK.out, w1.heap.size, HB7.out.drewN _, N27.out.drewN _, by omega, by omega⟩⟩
end Go.Proofs.Ytjnoddbhfcpniaa
