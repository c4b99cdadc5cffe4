/-
  EntryPlays: the law's step, Collect.
-/
import Derived.Test.YtjnoddbhfcpniaaStepC
namespace Go.Proofs.Ytjnoddbhfcpniaa
open Go.RowKit
open Go.BigFrame
set_option linter.unusedVariables false
set_option linter.unusedSimpArgs false

theorem lastOf_mem (l : Tk) (c : Int) : ∀ k, k ≤ l.length → ∀ {r : List UInt8}, lastOf l k c = some r → ∃ x ∈ l, x.2 = r
  | 0, _, r, h => by cases h
  | k + 1, hk, r, h => by
    have hk' : k < l.length := by omega
    simp only [lastOf, List.getElem?_eq_getElem hk', Option.getD_some] at h
    by_cases e : l[k].1 = c
    · rw [if_pos e] at h
      injection h with h
      exact ⟨l[k], List.getElem_mem hk', h⟩
    · rw [if_neg e] at h
      exact lastOf_mem l c k (by omega) h
theorem EntR.bne {w : World} {b : Nat} {t : RS} {G : Nat → Prop} (h : EntR w b t G) {n : Nat} {v : Value} {ys : List Value} (ho : w.ownsRow 0 5 1 v n ys) : ¬ oB v b := by
  obtain ⟨tv, rv, te, re, h⟩ := h
  exact h.blk.own_ne ho (by decide)
theorem StepTo.ofE {w wx wy : World} {I : Ids} {F G P Q S : Nat → Prop} {s : ES} {t : RS} {m : Int} {B : Nat} (h : PrM wx I F G Q s t m m) (hr : Rel s t) (hb : RB t B) (hf : Frm P w wx) (hQ : ∀ k, Q k → More P w wx k) (hfy : Frm S wx wy) (hS : ∀ k, S k → (P k ∨ w.heap.size ≤ k) ∧ ¬ (F k ∨ G k ∨ k = I.bb ∨ k = I.ab ∨ k = I.lb ∨ k = I.xb)) (hP : ∀ k, P k → k < w.heap.size) : StepTo w I P B wy := by
  have h1 := h.frmE hfy fun k hk e => (hS k e).2 hk
  have sz := hf.size
  have sy := hfy.size
  refine ⟨F, G, s, t, m, h1.more (fun k hk => More.up sy k (hQ k hk)) (fun k hk => ?_), hr, hb, hf.trans hfy fun k hk e => ?_⟩
  · rcases hk with hk | hk
    · have := hP k hk; omega
    · exact hk.2
  · rcases (hS k e).1 with h | h
    · exact h
    · omega
theorem Given.rd {w : World} {F F' : Nat → Prop} {r : Option (List UInt8)} {v : Value} {yes : Bool} (h : Given w F F' r v yes) : (r = none ∧ v = .slice none 0 0 ∧ yes = false) ∨ ∃ l A c, r = some l ∧ v = .slice A l.length c ∧ yes = true ∧ w.ownsRow 0 5 1 (.slice A l.length c) l.length (l.map bv) ∧ ∀ k, oB (.slice A l.length c) k → F k ∧ ¬ F' k := by
  rcases h with h | ⟨l, h1, h2, h3, h4⟩
  · exact .inl h
  · obtain ⟨A, c, rfl, _⟩ := own_slice h3
    exact .inr ⟨l, A, c, h1, rfl, h2, h3, h4⟩
section
variable {w : World} {I : Ids} {F G P : Nat → Prop} {s : ES} {t : RS} {m : Int} {B : Nat}
set_option maxRecDepth 100000 in
set_option maxHeartbeats 400000 in
theorem step_col (h : PrM w I F G P s t m m) (hr : Rel s t) (hb : RB t B) (hBB : B ≤ 1048576) (kind round at_ client : Int) (A Ar : Option Addr) (data : List UInt8) (rows : List (List UInt8)) (c cr : Nat) (hD : Rd w A (data.map bv)) (hA : data ≠ [] → ∀ k, aB A k → ¬ P k) (hL : data.length ≤ B) (hR : RdRows w Ar rows (fun k => ¬ P k)) (hRl : ∀ l ∈ rows, l.length ≤ B) (hRn : rows.length ≤ B) :
    Calls Try.prog 28 #[.pointer (some ⟨I.bb, 0, none⟩), .agg #[.int .i64 6, .int .i64 kind, .int .u64 round, .int .i64 at_, .int .i64 client, .slice A data.length c, .slice Ar rows.length cr]] w fun e w' => e = .returned (.bool true) ∧ StepTo w I P B w' := by
  have f1 : Frm noB w (w.alloc (.cells #[.int .i64 6, .int .i64 kind, .int .u64 round, .int .i64 at_, .int .i64 client, .slice A data.length c, .slice Ar rows.length cr] 68)) := (Frm.refl _ _).alloc _
  have b1 : Blk (w.alloc (.cells #[.int .i64 6, .int .i64 kind, .int .u64 round, .int .i64 at_, .int .i64 client, .slice A data.length c, .slice Ar rows.length cr] 68)) w.heap.size 68 #[.int .i64 6, .int .i64 kind, .int .u64 round, .int .i64 at_, .int .i64 client, .slice A data.length c, .slice Ar rows.length cr] := Blk.new _ _ _
  have hsz1 : w.heap.size < (w.alloc (.cells #[.int .i64 6, .int .i64 kind, .int .u64 round, .int .i64 at_, .int .i64 client, .slice A data.length c, .slice Ar rows.length cr] 68)).heap.size := b1.lt
  have H1 := Lib.hid (h.frm' f1)
  have D1 := Lib.hid (hD.frm' f1)
  have W1 := Lib.hid (hR.frm' f1)
  have B1 := Lib.hid b1
  have F1 := Lib.hid f1
  have PL := Lib.hid h.pl
  have HR := Lib.hid hr
  have HB := Lib.hid hb
  have HAP := Lib.hid hA
  have HRL := Lib.hid hRl
  clear h hD f1 b1 hr hb hA hR hRl
  go_enter Try.func28, Try.ntmps28
  go_upto_region 1 with fail
  generalize w.alloc (.cells #[.int .i64 6, .int .i64 kind, .int .u64 round, .int .i64 at_, .int .i64 client, .slice A data.length c, .slice Ar rows.length cr] 68) = w1 at *
  have c0 := B1.out.cell 0
  simp at c0
  go_upto_region 20 with fail
  have a0 := H1.out.both.cell 0
  have d4 := B1.out.cell 4
  simp at a0 d4
  have s1 : w1.drew.cell? ⟨I.bb, 0, none⟩ = some (.pointer (some ⟨I.eb, 0, none⟩)) ∧ w1.drew.cell? ⟨w.heap.size, 4, none⟩ = some (.int .i64 client) := ⟨a0, d4⟩
  have F1D := Lib.hid (F1.out.drew)
  have H1D := Lib.hid (H1.out.frm' (Frm.refl noB w1).drew)
  have B1D := Lib.hid (B1.out.drew)
  refine wp_region_held_drew (S := fun W => W.cell? ⟨I.bb, 0, none⟩ = some (.pointer (some ⟨I.eb, 0, none⟩)) ∧ W.cell? ⟨w.heap.size, 4, none⟩ = some (.int .i64 client)) (by kernel_rfl) s1 (fun hHeld => ?_)
  clear a0 d4 hHeld c0 H1 B1 F1
  generalize w1.drew = wd at *
  refine takeC (i := 0) (.pointer (some ⟨I.bb, 0, none⟩)) rfl (by kernel_rfl) (by kernel_rfl) (by kernel_rfl) (fun _ _ _ h => h) (Or.inl ⟨by rfl, fun w hw => by go_simp⟩) s1 ?_
  try simp only [Act.put, List.setIfInBounds_toArray, List.set_cons_zero, List.set_cons_succ]
  refine takeC (i := 1) (.pointer (some ⟨I.bb, 0, none⟩)) rfl (by kernel_rfl) (by kernel_rfl) (by kernel_rfl) (fun _ _ _ h => h) (Or.inl ⟨by rfl, fun w hw => by go_simp⟩) s1 ?_
  try simp only [Act.put, List.setIfInBounds_toArray, List.set_cons_zero, List.set_cons_succ]
  refine takeC (i := 2) (.pointer (some ⟨I.bb, 0, none⟩)) rfl (by kernel_rfl) (by kernel_rfl) (by kernel_rfl) (fun _ _ _ h => h) (Or.inl ⟨by rfl, fun w hw => by go_simp⟩) s1 ?_
  try simp only [Act.put, List.setIfInBounds_toArray, List.set_cons_zero, List.set_cons_succ]
  refine takeC (i := 3) (.pointer (some ⟨I.eb, 0, none⟩)) rfl (by kernel_rfl) (by kernel_rfl) (by kernel_rfl) (fun _ _ _ h => h) (Or.inl ⟨by rfl, fun w hw => by go_simp⟩) s1 ?_
  try simp only [Act.put, List.setIfInBounds_toArray, List.set_cons_zero, List.set_cons_succ]
  refine takeC (i := 4) (.pointer (some ⟨w.heap.size, 4, none⟩)) rfl (by kernel_rfl) (by kernel_rfl) (by kernel_rfl) (fun _ _ _ h => h) (Or.inl ⟨by rfl, fun w hw => by go_simp⟩) s1 ?_
  try simp only [Act.put, List.setIfInBounds_toArray, List.set_cons_zero, List.set_cons_succ]
  refine takeC (i := 5) (.int .i64 client) rfl (by kernel_rfl) (by kernel_rfl) (by kernel_rfl) (fun _ _ _ h => h) (Or.inl ⟨by rfl, fun w hw => by go_simp⟩) s1 ?_
  try simp only [Act.put, List.setIfInBounds_toArray, List.set_cons_zero, List.set_cons_succ]
  refine consC (i := 6) rfl (by kernel_rfl) (fun K hK => ?_)
  go_simp
  have hwP : ¬ P w.heap.size := fun h => by have := PL.out _ h; omega
  refine (col_c H1D.out.ent client).mono ?_
  rintro _ w2 hcl
  by_cases hc : 0 ≤ client ∧ client < s.clients
  · obtain ⟨hc0, _⟩ | ⟨_, F', v, yes, rfl, hE, hG, hsub, f2⟩ := hcl
    · exact absurd hc hc0
    have M2 := Lib.hid (H1D.out.entry hE f2 fun k hk => .inl (hsub k hk))
    have s2 : w2.cell? ⟨I.bb, 0, none⟩ = some (.pointer (some ⟨I.eb, 0, none⟩)) ∧ w2.cell? ⟨w.heap.size, 4, none⟩ = some (.int .i64 client) := ⟨f2.cell_some s1.1 fun h => (H1D.out.fs _ (.inl h)).1 rfl, f2.cell_some s1.2 fun h => hwP (H1D.out.p _ (.inl h))⟩
    have B2 := Lib.hid (B1D.out.frm f2 fun h => hwP (H1D.out.p _ (.inl h)))
    have HG2 := Lib.hid hG.rd
    have HSUB := Lib.hid hsub
    have F2 := Lib.hid (F1D.out.any.trans' (f2.mono fun k _ h => H1D.out.p k (.inl h)) : Frm P w w2)
    have sz2 := f2.size
    clear hE f2 hG hsub s1 B1D
    try dsimp only
    refine hK.out _ _ s2 (fun hHeld => ?_)
    clear hK K
    try simp only [Act.put, List.setIfInBounds_toArray, List.set_cons_zero, List.set_cons_succ]
    refine takeC (i := 7) (.tuple #[v, .bool yes, .int .i64 0]) rfl (by kernel_rfl) (by kernel_rfl) (by kernel_rfl) (fun _ _ _ h => h) (Or.inl ⟨by rfl, fun w hw => by go_simp⟩) s2 ?_
    try simp only [Act.put, List.setIfInBounds_toArray, List.set_cons_zero, List.set_cons_succ]
    refine takeC (i := 8) (v) rfl (by kernel_rfl) (by kernel_rfl) (by kernel_rfl) (fun _ _ _ h => h) (Or.inl ⟨by rfl, fun w hw => by go_simp⟩) s2 ?_
    try simp only [Act.put, List.setIfInBounds_toArray, List.set_cons_zero, List.set_cons_succ]
    refine takeC (i := 9) (.bool yes) rfl (by kernel_rfl) (by kernel_rfl) (by kernel_rfl) (fun _ _ _ h => h) (Or.inl ⟨by rfl, fun w hw => by go_simp⟩) s2 ?_
    try simp only [Act.put, List.setIfInBounds_toArray, List.set_cons_zero, List.set_cons_succ]
    refine takeC (i := 10) (.int .i64 0) rfl (by kernel_rfl) (by kernel_rfl) (by kernel_rfl) (fun _ _ _ h => h) (Or.inl ⟨by rfl, fun w hw => by go_simp⟩) s2 ?_
    try simp only [Act.put, List.setIfInBounds_toArray, List.set_cons_zero, List.set_cons_succ]
    refine takeC (i := 11) (v) rfl (by kernel_rfl) (by kernel_rfl) (by kernel_rfl) (fun _ _ _ h => h) (Or.inl ⟨by rfl, fun w hw => by go_simp⟩) s2 ?_
    try simp only [Act.put, List.setIfInBounds_toArray, List.set_cons_zero, List.set_cons_succ]
    refine takeC (i := 12) (.bool yes) rfl (by kernel_rfl) (by kernel_rfl) (by kernel_rfl) (fun _ _ _ h => h) (Or.inl ⟨by rfl, fun w hw => by go_simp⟩) s2 ?_
    try simp only [Act.put, List.setIfInBounds_toArray, List.set_cons_zero, List.set_cons_succ]
    refine takeC (i := 13) (.int .i64 0) rfl (by kernel_rfl) (by kernel_rfl) (by kernel_rfl) (fun _ _ _ h => h) (Or.inl ⟨by rfl, fun w hw => by go_simp⟩) s2 ?_
    try simp only [Act.put, List.setIfInBounds_toArray, List.set_cons_zero, List.set_cons_succ]
    refine wpAnyH_done (by kernel_rfl) ?_ _
    clear s2 hHeld
    go_upto_region 21 with fail
    have a1 := M2.out.both.cell 1
    have d4 := B2.out.cell 4
    simp at a1 d4
    have s1 : w2.drew.cell? ⟨I.bb, 1, none⟩ = some (.pointer (some ⟨I.rb, 0, none⟩)) ∧ w2.drew.cell? ⟨w.heap.size, 4, none⟩ = some (.int .i64 client) := ⟨a1, d4⟩
    have M2D := Lib.hid (M2.out.frm' (Frm.refl noB w2).drew)
    have FD2 := Lib.hid (Frm.refl noB w2).drew
    have hsd : w2.heap.size ≤ w2.drew.heap.size := Nat.le_refl _
    refine wp_region_held_drew (S := fun W => W.cell? ⟨I.bb, 1, none⟩ = some (.pointer (some ⟨I.rb, 0, none⟩)) ∧ W.cell? ⟨w.heap.size, 4, none⟩ = some (.int .i64 client)) (by kernel_rfl) s1 (fun hHeld => ?_)
    clear a1 d4 hHeld
    generalize w2.drew = we at *
    refine takeC (i := 0) (.pointer (some ⟨I.bb, 0, none⟩)) rfl (by kernel_rfl) (by kernel_rfl) (by kernel_rfl) (fun _ _ _ h => h) (Or.inl ⟨by rfl, fun w hw => by go_simp⟩) s1 ?_
    try simp only [Act.put, List.setIfInBounds_toArray, List.set_cons_zero, List.set_cons_succ]
    refine takeC (i := 1) (.pointer (some ⟨I.bb, 0, none⟩)) rfl (by kernel_rfl) (by kernel_rfl) (by kernel_rfl) (fun _ _ _ h => h) (Or.inl ⟨by rfl, fun w hw => by go_simp⟩) s1 ?_
    try simp only [Act.put, List.setIfInBounds_toArray, List.set_cons_zero, List.set_cons_succ]
    refine takeC (i := 2) (.pointer (some ⟨I.bb, 1, none⟩)) rfl (by kernel_rfl) (by kernel_rfl) (by kernel_rfl) (fun _ _ _ h => h) (Or.inl ⟨by rfl, fun w hw => by go_simp⟩) s1 ?_
    try simp only [Act.put, List.setIfInBounds_toArray, List.set_cons_zero, List.set_cons_succ]
    refine takeC (i := 3) (.pointer (some ⟨I.rb, 0, none⟩)) rfl (by kernel_rfl) (by kernel_rfl) (by kernel_rfl) (fun _ _ _ h => h) (Or.inl ⟨by rfl, fun w hw => by go_simp⟩) s1 ?_
    try simp only [Act.put, List.setIfInBounds_toArray, List.set_cons_zero, List.set_cons_succ]
    refine takeC (i := 4) (.pointer (some ⟨w.heap.size, 4, none⟩)) rfl (by kernel_rfl) (by kernel_rfl) (by kernel_rfl) (fun _ _ _ h => h) (Or.inl ⟨by rfl, fun w hw => by go_simp⟩) s1 ?_
    try simp only [Act.put, List.setIfInBounds_toArray, List.set_cons_zero, List.set_cons_succ]
    refine takeC (i := 5) (.int .i64 client) rfl (by kernel_rfl) (by kernel_rfl) (by kernel_rfl) (fun _ _ _ h => h) (Or.inl ⟨by rfl, fun w hw => by go_simp⟩) s1 ?_
    try simp only [Act.put, List.setIfInBounds_toArray, List.set_cons_zero, List.set_cons_succ]
    refine consC (i := 6) rfl (by kernel_rfl) (fun K hK => ?_)
    go_simp
    refine (rcol_c M2D.out.ref HB.out client).mono ?_
    rintro _ w3 hrc
    have hc2 : 0 ≤ client ∧ client < t.clients := by rw [← HR.out.cl]; exact hc
    obtain ⟨_, v2, yes2, G', rfl, hE, f3, g3, hF⟩ := hrc.resolve_left fun h => h.1 hc2
    have hGr := M2D.out.ref.gb
    have f3G : Frm G we w3 := f3.mono fun k _ e => (show k = I.rb from e) ▸ hGr
    have M3 := Lib.hid (M2D.out.refe hE ⟨rfl, rfl⟩ f3G g3)
    have s3 : w3.cell? ⟨I.bb, 1, none⟩ = some (.pointer (some ⟨I.rb, 0, none⟩)) ∧ w3.cell? ⟨w.heap.size, 4, none⟩ = some (.int .i64 client) := ⟨f3G.cell_some s1.1 fun h => (M2D.out.fs _ (.inr h)).1 rfl, f3G.cell_some s1.2 fun h => hwP (H1D.out.p _ (.inr (.inl h)))⟩
    have F3 := Lib.hid ((F2.out.trans' FD2.out.any).trans' (f3G.mono fun k _ h => H1D.out.p k (.inr (.inl h))))
    have HF3 := Lib.hid hF
    have F3S := Lib.hid f3
    have HGG : Hid (∀ k, G' k → G k ∨ we.heap.size ≤ k) := Lib.hid fun k hk => (g3 k hk).imp id fun h => h.1
    have sz3 := f3.size
    clear hE f3 f3G g3 hF s1 hrc
    try dsimp only
    refine hK.out _ _ s3 (fun hHeld => ?_)
    clear hK K
    try simp only [Act.put, List.setIfInBounds_toArray, List.set_cons_zero, List.set_cons_succ]
    refine takeC (i := 7) (.tuple #[v2, .bool yes2, .int .i64 0]) rfl (by kernel_rfl) (by kernel_rfl) (by kernel_rfl) (fun _ _ _ h => h) (Or.inl ⟨by rfl, fun w hw => by go_simp⟩) s3 ?_
    try simp only [Act.put, List.setIfInBounds_toArray, List.set_cons_zero, List.set_cons_succ]
    refine takeC (i := 8) (v2) rfl (by kernel_rfl) (by kernel_rfl) (by kernel_rfl) (fun _ _ _ h => h) (Or.inl ⟨by rfl, fun w hw => by go_simp⟩) s3 ?_
    try simp only [Act.put, List.setIfInBounds_toArray, List.set_cons_zero, List.set_cons_succ]
    refine takeC (i := 9) (.bool yes2) rfl (by kernel_rfl) (by kernel_rfl) (by kernel_rfl) (fun _ _ _ h => h) (Or.inl ⟨by rfl, fun w hw => by go_simp⟩) s3 ?_
    try simp only [Act.put, List.setIfInBounds_toArray, List.set_cons_zero, List.set_cons_succ]
    refine takeC (i := 10) (.int .i64 0) rfl (by kernel_rfl) (by kernel_rfl) (by kernel_rfl) (fun _ _ _ h => h) (Or.inl ⟨by rfl, fun w hw => by go_simp⟩) s3 ?_
    try simp only [Act.put, List.setIfInBounds_toArray, List.set_cons_zero, List.set_cons_succ]
    refine takeC (i := 11) (v2) rfl (by kernel_rfl) (by kernel_rfl) (by kernel_rfl) (fun _ _ _ h => h) (Or.inl ⟨by rfl, fun w hw => by go_simp⟩) s3 ?_
    try simp only [Act.put, List.setIfInBounds_toArray, List.set_cons_zero, List.set_cons_succ]
    refine takeC (i := 12) (.bool yes2) rfl (by kernel_rfl) (by kernel_rfl) (by kernel_rfl) (fun _ _ _ h => h) (Or.inl ⟨by rfl, fun w hw => by go_simp⟩) s3 ?_
    try simp only [Act.put, List.setIfInBounds_toArray, List.set_cons_zero, List.set_cons_succ]
    refine takeC (i := 13) (.int .i64 0) rfl (by kernel_rfl) (by kernel_rfl) (by kernel_rfl) (fun _ _ _ h => h) (Or.inl ⟨by rfl, fun w hw => by go_simp⟩) s3 ?_
    try simp only [Act.put, List.setIfInBounds_toArray, List.set_cons_zero, List.set_cons_succ]
    refine wpAnyH_done (by kernel_rfl) ?_ _
    clear s3 hHeld
    have hrl := HR.out.rl client
    have szd := F1D.out.size
    have hQ : Hid (∀ k, More (More P wd w2) we w3 k → More P w w3 k) := Lib.hid fun k hk => by
      rcases hk with (hk | hk) | hk
      · exact .inl hk
      · exact .inr ⟨by omega, by omega⟩
      · exact .inr ⟨by omega, by omega⟩
    rcases HG2.out with ⟨r1, rfl, rfl⟩ | ⟨l, A2, c2, r1, rfl, rfl, hown, hin⟩
    · rcases HF3.out with ⟨r2, rfl, rfl⟩ | ⟨l2, A3, q3, r2, _⟩
      · have EQB := Lib.hid fun w' => eqBytes_any none none [] [] 0 0 w' (Rd.nil _ _) (Rd.nil _ _) (by unfold Len; simp) (by unfold Len; simp)
        rw [eql_true rfl] at EQB
        go_wp2_with fail
        refine (EQB.out w3).mono ?_
        rintro _ w4 ⟨rfl, f4⟩
        have M4 := Lib.hid (M3.out.frm' f4)
        have F4 := Lib.hid (F3.out.trans' f4.any)
        have sz4 := f4.size
        clear f4
        try dsimp only
        go_wp2_with fail
        go_loopw [21] (fun i wr => i = .int .i64 0 ∧ wr = w4) (fun _ _ => 0)
        case atStart => exact ⟨rfl, rfl⟩
        case round =>
          obtain ⟨rfl, rfl⟩ := hrel
          go_wp2
          go_ret
          exact ⟨rfl, StepTo.fin M4.out (HR.out.collected client) (HB.out.collected client) F4.out (fun k hk => More.up sz4 k (hQ.out k hk)) PL.out⟩
      · rw [r1] at hrl; rw [← hrl] at r2; cases r2
    · rcases HF3.out with ⟨r2, _⟩ | ⟨l2, A3, q3, r2, rfl, rfl, hrd, hrdA⟩
      · rw [r1] at hrl; rw [← hrl] at r2; cases r2
      · have el : l = l2 := by
          rw [r1] at hrl; rw [← hrl] at r2; injection r2
        subst el
        have hll : l.length ≤ 1048576 := by
          obtain ⟨x, hx, e⟩ := lastOf_mem t.rp client _ (Nat.le_refl _) r2
          have := HB.out.br x hx
          rw [e] at this
          omega
        have hGr := M2D.out.ref.gb
        have Y3 := Lib.hid (own_frm (own_frm' hown FD2.out) F3S.out fun q hq e => H1D.out.fg q (hin q hq).1 ((show q = I.rb from e) ▸ hGr))
        have Z3 := Lib.hid (own_frm hrd F3S.out fun q hq e => M2D.out.ref.bne hrd ((show q = I.rb from e) ▸ hq))
        have EQB := Lib.hid (eqBytes_any A2 A3 l l c2 q3 w3 (Rd.of_own Y3.out) (Rd.of_own Z3.out) (by unfold Len; omega) (by unfold Len; omega))
        rw [eql_true rfl] at EQB
        have HIN := Lib.hid hin
        clear hown hin hrd hrdA hrl r1 r2 Z3 HG2 HF3
        go_wp2_with fail
        refine EQB.out.mono ?_
        rintro _ w4 ⟨rfl, f4⟩
        have M4 := Lib.hid (M3.out.frm' f4)
        have F4 := Lib.hid (F3.out.trans' f4.any)
        have Y4 := Lib.hid (own_frm' Y3.out f4)
        have sz4 := f4.size
        have YB : Hid (∀ y ∈ l.map bv, ∃ z : Int, y = Value.int .u8 z) := Lib.hid fun y hy => by
          obtain ⟨x, _, rfl⟩ := List.mem_map.1 hy
          exact ⟨_, rfl⟩
        clear f4 Y3
        try dsimp only
        go_wp2_with fail
        go_loopw [21] (fun i wr => ∃ (k : Nat) (ys : List Value), k ≤ l.length ∧ i = .int .i64 k ∧ wr.ownsRow 0 5 1 (.slice A2 l.length c2) l.length ys ∧ (∀ y ∈ ys, ∃ z : Int, y = Value.int .u8 z) ∧ Frm (oB (.slice A2 l.length c2)) w4 wr) (fun i _ => l.length - (intOf i).toNat)
        case atStart => exact ⟨0, _, Nat.zero_le _, rfl, Y4.out, YB.out, Frm.refl _ _⟩
        case round =>
          obtain ⟨k, ys, hk, rfl, hown, hys, hfr⟩ := hrel
          by_cases hkl : k < l.length
          · obtain ⟨g, hg⟩ := own_some hown (by omega)
            subst hg
            obtain ⟨⟨hx, d1⟩, d2, _⟩ := own_put hown hkl (.int .u8 0)
            obtain ⟨z, hz⟩ := hys _ (List.getElem_mem hx)
            rw [hz] at d1
            have HO := Lib.hid hown
            have HY := Lib.hid hys
            have HFR := Lib.hid hfr
            clear hown hys hfr hz
            go_wp2_with fail
            go_roundw
            case rel =>
              refine ⟨k + 1, _, by omega, by go_num, (own_put HO.out hkl _).2.2, fun y hy => ?_, HFR.out.setCell (a := ⟨g, k, none⟩) (.inl rfl) _⟩
              rcases List.mem_or_eq_of_mem_set hy with hy | hy
              · exact HY.out y hy
              · exact ⟨_, hy⟩
            case measure => simp [intOf]; omega
          · have e : k = l.length := by omega
            subst e
            have HFR := Lib.hid hfr
            clear hown hys hfr
            go_wp2_with fail
            go_ret
            exact ⟨rfl, StepTo.ofE M4.out (HR.out.collected client) (HB.out.collected client) F4.out (fun k hk => More.up sz4 k (hQ.out k hk)) HFR.out (fun k hk => by
              have h1 := HIN.out k hk
              refine ⟨.inl (H1D.out.p k (.inl h1.1)), fun h => ?_⟩
              have h2 := H1D.out.fs k (.inl h1.1)
              rcases h with h | h | h | h | h | h
              · exact h1.2 h
              · rcases HGG.out k h with h | h
                · exact H1D.out.fg k h1.1 h
                · have := H1D.out.pl k (H1D.out.p k (.inl h1.1)); omega
              · exact h2.1 h
              · exact h2.2.1 h
              · exact h2.2.2.1 h
              · exact h2.2.2.2 h) PL.out⟩
  · have hcl' : _ ∧ _ := (hcl.resolve_right fun h => hc h.1).2
    obtain ⟨rfl, hE, f2⟩ := hcl'
    have M2 := Lib.hid (H1D.out.entry hE f2.any fun k hk => .inl hk)
    have s2 : w2.cell? ⟨I.bb, 0, none⟩ = some (.pointer (some ⟨I.eb, 0, none⟩)) ∧ w2.cell? ⟨w.heap.size, 4, none⟩ = some (.int .i64 client) := ⟨f2.cell_some s1.1 fun h => h, f2.cell_some s1.2 fun h => h⟩
    have B2 := Lib.hid (B1D.out.frm' f2)
    have F2 := Lib.hid (F1D.out.trans' f2 : Frm noB w w2)
    have sz2 := f2.size
    clear hE f2 s1 B1D hcl
    try dsimp only
    refine hK.out _ _ s2 (fun hHeld => ?_)
    clear hK K
    try simp only [Act.put, List.setIfInBounds_toArray, List.set_cons_zero, List.set_cons_succ]
    refine takeC (i := 7) (.tuple #[.slice none 0 0, .bool false, .int .i64 292]) rfl (by kernel_rfl) (by kernel_rfl) (by kernel_rfl) (fun _ _ _ h => h) (Or.inl ⟨by rfl, fun w hw => by go_simp⟩) s2 ?_
    try simp only [Act.put, List.setIfInBounds_toArray, List.set_cons_zero, List.set_cons_succ]
    refine takeC (i := 8) (.slice none 0 0) rfl (by kernel_rfl) (by kernel_rfl) (by kernel_rfl) (fun _ _ _ h => h) (Or.inl ⟨by rfl, fun w hw => by go_simp⟩) s2 ?_
    try simp only [Act.put, List.setIfInBounds_toArray, List.set_cons_zero, List.set_cons_succ]
    refine takeC (i := 9) (.bool false) rfl (by kernel_rfl) (by kernel_rfl) (by kernel_rfl) (fun _ _ _ h => h) (Or.inl ⟨by rfl, fun w hw => by go_simp⟩) s2 ?_
    try simp only [Act.put, List.setIfInBounds_toArray, List.set_cons_zero, List.set_cons_succ]
    refine takeC (i := 10) (.int .i64 292) rfl (by kernel_rfl) (by kernel_rfl) (by kernel_rfl) (fun _ _ _ h => h) (Or.inl ⟨by rfl, fun w hw => by go_simp⟩) s2 ?_
    try simp only [Act.put, List.setIfInBounds_toArray, List.set_cons_zero, List.set_cons_succ]
    refine takeC (i := 11) (.slice none 0 0) rfl (by kernel_rfl) (by kernel_rfl) (by kernel_rfl) (fun _ _ _ h => h) (Or.inl ⟨by rfl, fun w hw => by go_simp⟩) s2 ?_
    try simp only [Act.put, List.setIfInBounds_toArray, List.set_cons_zero, List.set_cons_succ]
    refine takeC (i := 12) (.bool false) rfl (by kernel_rfl) (by kernel_rfl) (by kernel_rfl) (fun _ _ _ h => h) (Or.inl ⟨by rfl, fun w hw => by go_simp⟩) s2 ?_
    try simp only [Act.put, List.setIfInBounds_toArray, List.set_cons_zero, List.set_cons_succ]
    refine takeC (i := 13) (.int .i64 292) rfl (by kernel_rfl) (by kernel_rfl) (by kernel_rfl) (fun _ _ _ h => h) (Or.inl ⟨by rfl, fun w hw => by go_simp⟩) s2 ?_
    try simp only [Act.put, List.setIfInBounds_toArray, List.set_cons_zero, List.set_cons_succ]
    refine wpAnyH_done (by kernel_rfl) ?_ _
    clear s2 hHeld
    go_upto_region 21 with fail
    have a1 := M2.out.both.cell 1
    have d4 := B2.out.cell 4
    simp at a1 d4
    have s1 : w2.drew.cell? ⟨I.bb, 1, none⟩ = some (.pointer (some ⟨I.rb, 0, none⟩)) ∧ w2.drew.cell? ⟨w.heap.size, 4, none⟩ = some (.int .i64 client) := ⟨a1, d4⟩
    have M2D := Lib.hid (M2.out.frm' (Frm.refl noB w2).drew)
    have FD2 := Lib.hid (Frm.refl noB w2).drew
    have hsd : w2.heap.size ≤ w2.drew.heap.size := Nat.le_refl _
    refine wp_region_held_drew (S := fun W => W.cell? ⟨I.bb, 1, none⟩ = some (.pointer (some ⟨I.rb, 0, none⟩)) ∧ W.cell? ⟨w.heap.size, 4, none⟩ = some (.int .i64 client)) (by kernel_rfl) s1 (fun hHeld => ?_)
    clear a1 d4 hHeld
    generalize w2.drew = we at *
    refine takeC (i := 0) (.pointer (some ⟨I.bb, 0, none⟩)) rfl (by kernel_rfl) (by kernel_rfl) (by kernel_rfl) (fun _ _ _ h => h) (Or.inl ⟨by rfl, fun w hw => by go_simp⟩) s1 ?_
    try simp only [Act.put, List.setIfInBounds_toArray, List.set_cons_zero, List.set_cons_succ]
    refine takeC (i := 1) (.pointer (some ⟨I.bb, 0, none⟩)) rfl (by kernel_rfl) (by kernel_rfl) (by kernel_rfl) (fun _ _ _ h => h) (Or.inl ⟨by rfl, fun w hw => by go_simp⟩) s1 ?_
    try simp only [Act.put, List.setIfInBounds_toArray, List.set_cons_zero, List.set_cons_succ]
    refine takeC (i := 2) (.pointer (some ⟨I.bb, 1, none⟩)) rfl (by kernel_rfl) (by kernel_rfl) (by kernel_rfl) (fun _ _ _ h => h) (Or.inl ⟨by rfl, fun w hw => by go_simp⟩) s1 ?_
    try simp only [Act.put, List.setIfInBounds_toArray, List.set_cons_zero, List.set_cons_succ]
    refine takeC (i := 3) (.pointer (some ⟨I.rb, 0, none⟩)) rfl (by kernel_rfl) (by kernel_rfl) (by kernel_rfl) (fun _ _ _ h => h) (Or.inl ⟨by rfl, fun w hw => by go_simp⟩) s1 ?_
    try simp only [Act.put, List.setIfInBounds_toArray, List.set_cons_zero, List.set_cons_succ]
    refine takeC (i := 4) (.pointer (some ⟨w.heap.size, 4, none⟩)) rfl (by kernel_rfl) (by kernel_rfl) (by kernel_rfl) (fun _ _ _ h => h) (Or.inl ⟨by rfl, fun w hw => by go_simp⟩) s1 ?_
    try simp only [Act.put, List.setIfInBounds_toArray, List.set_cons_zero, List.set_cons_succ]
    refine takeC (i := 5) (.int .i64 client) rfl (by kernel_rfl) (by kernel_rfl) (by kernel_rfl) (fun _ _ _ h => h) (Or.inl ⟨by rfl, fun w hw => by go_simp⟩) s1 ?_
    try simp only [Act.put, List.setIfInBounds_toArray, List.set_cons_zero, List.set_cons_succ]
    refine consC (i := 6) rfl (by kernel_rfl) (fun K hK => ?_)
    go_simp
    refine (rcol_c M2D.out.ref HB.out client).mono ?_
    rintro _ w3 hrc
    have hc2 : ¬ (0 ≤ client ∧ client < t.clients) := by rw [← HR.out.cl]; exact hc
    obtain ⟨_, rfl, hw3⟩ := hrc.resolve_right fun h => hc2 h.1
    subst hw3
    have F3 := Lib.hid (F2.out.trans' FD2.out)
    have szd := F1D.out.size
    clear hrc
    try dsimp only
    refine hK.out _ _ s1 (fun hHeld => ?_)
    clear hK K
    try simp only [Act.put, List.setIfInBounds_toArray, List.set_cons_zero, List.set_cons_succ]
    refine takeC (i := 7) (.tuple #[.slice none 0 0, .bool false, .int .i64 292]) rfl (by kernel_rfl) (by kernel_rfl) (by kernel_rfl) (fun _ _ _ h => h) (Or.inl ⟨by rfl, fun w hw => by go_simp⟩) s1 ?_
    try simp only [Act.put, List.setIfInBounds_toArray, List.set_cons_zero, List.set_cons_succ]
    refine takeC (i := 8) (.slice none 0 0) rfl (by kernel_rfl) (by kernel_rfl) (by kernel_rfl) (fun _ _ _ h => h) (Or.inl ⟨by rfl, fun w hw => by go_simp⟩) s1 ?_
    try simp only [Act.put, List.setIfInBounds_toArray, List.set_cons_zero, List.set_cons_succ]
    refine takeC (i := 9) (.bool false) rfl (by kernel_rfl) (by kernel_rfl) (by kernel_rfl) (fun _ _ _ h => h) (Or.inl ⟨by rfl, fun w hw => by go_simp⟩) s1 ?_
    try simp only [Act.put, List.setIfInBounds_toArray, List.set_cons_zero, List.set_cons_succ]
    refine takeC (i := 10) (.int .i64 292) rfl (by kernel_rfl) (by kernel_rfl) (by kernel_rfl) (fun _ _ _ h => h) (Or.inl ⟨by rfl, fun w hw => by go_simp⟩) s1 ?_
    try simp only [Act.put, List.setIfInBounds_toArray, List.set_cons_zero, List.set_cons_succ]
    refine takeC (i := 11) (.slice none 0 0) rfl (by kernel_rfl) (by kernel_rfl) (by kernel_rfl) (fun _ _ _ h => h) (Or.inl ⟨by rfl, fun w hw => by go_simp⟩) s1 ?_
    try simp only [Act.put, List.setIfInBounds_toArray, List.set_cons_zero, List.set_cons_succ]
    refine takeC (i := 12) (.bool false) rfl (by kernel_rfl) (by kernel_rfl) (by kernel_rfl) (fun _ _ _ h => h) (Or.inl ⟨by rfl, fun w hw => by go_simp⟩) s1 ?_
    try simp only [Act.put, List.setIfInBounds_toArray, List.set_cons_zero, List.set_cons_succ]
    refine takeC (i := 13) (.int .i64 292) rfl (by kernel_rfl) (by kernel_rfl) (by kernel_rfl) (fun _ _ _ h => h) (Or.inl ⟨by rfl, fun w hw => by go_simp⟩) s1 ?_
    try simp only [Act.put, List.setIfInBounds_toArray, List.set_cons_zero, List.set_cons_succ]
    refine wpAnyH_done (by kernel_rfl) ?_ _
    clear s1 hHeld
    have EQB := Lib.hid fun w' => eqBytes_any none none [] [] 0 0 w' (Rd.nil _ _) (Rd.nil _ _) (by unfold Len; simp) (by unfold Len; simp)
    rw [eql_true rfl] at EQB
    go_wp2_with fail
    refine (EQB.out _).mono ?_
    rintro _ w4 ⟨rfl, f4⟩
    have M4 := Lib.hid (M2D.out.frm' f4)
    have F4 := Lib.hid (F3.out.trans' f4)
    have sz4 := f4.size
    have hQ : Hid (∀ k, More P wd w2 k → More P w w4 k) := Lib.hid fun k hk => by
      rcases hk with hk | hk
      · exact .inl hk
      · exact .inr ⟨by omega, by omega⟩
    clear f4
    try dsimp only
    go_wp2_with fail
    go_loopw [21] (fun i wr => i = .int .i64 0 ∧ wr = w4) (fun _ _ => 0)
    case atStart => exact ⟨rfl, rfl⟩
    case round =>
      obtain ⟨rfl, rfl⟩ := hrel
      go_wp2
      go_ret
      exact ⟨rfl, StepTo.fin M4.out HR.out HB.out F4.out.any hQ.out PL.out⟩
end
end Go.Proofs.Ytjnoddbhfcpniaa
