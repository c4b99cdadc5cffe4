/-
  Close.
-/
import Derived.Test.YtjnoddbhfcpniaaEntOpen
import Derived.Deep.RegionHeld3
namespace Go.Proofs.Ytjnoddbhfcpniaa
open Go.RowKit
set_option linter.unusedVariables false
set_option linter.unusedSimpArgs false

def closed (s : ES) : ES := { s with phase := 2, boxes := [] }
section
variable {w : World} {b : Nat} {F : Nat → Prop} {fv : Value} {s : ES} {ma mr : Nat} {wv xv : Value} {xs : List Value} {rv : List (Int × Value)}

theorem close_no (h : IsE w b F fv s ma mr wv xv xs rv) (hp : s.phase ≠ 1) :
    Calls Try.prog 14 #[.pointer (some ⟨b, 0, none⟩)] w fun e w' => e = .returned (.tuple #[.agg #[.int .i64 0, .int .u64 0, .slice none 0 0, .slice none 0 0], .int .i64 251]) ∧ Frm noB w w' := by
  have B := h.blk.alloc (.cells #[.int .i64 0, .int .u64 0, .slice none 0 0, .slice none 0 0] 39)
  have c3 := B.cell 3
  simp at c3
  have hp' : (s.phase != 1) = true := by simpa using hp
  clear hp h B
  go_enter Try.func14, Try.ntmps14
  go_wp2
  refine bodyPost_ret (v := .tuple #[.agg #[.int .i64 0, .int .u64 0, .slice none 0 0, .slice none 0 0], .int .i64 251]) (by simp [results, Try.results14, go_sem]) rfl ⟨rfl, ?_⟩
  exact (Frm.refl _ _).alloc _

theorem close_held {W : World} (h : Blk W b 78 #[fv, .int .i64 s.clients, .int .i64 s.most, .int .i64 2, .int .i64 s.kind, .int .i64 s.length, .int .u64 s.round, .int .i64 s.til, .map (some ma), wv, xv, .map (some mr)]) :
    W.cell? ⟨b, 4, none⟩ = some (.int .i64 s.kind) ∧ W.cell? ⟨b, 6, none⟩ = some (.int .u64 s.round) ∧ W.cell? ⟨b, 9, none⟩ = some wv ∧ W.cell? ⟨b, 10, none⟩ = some xv :=
  ⟨h.cell 4, h.cell 6, h.cell 9, h.cell 10⟩

/-- what Close leaves -/
theorem close_end (H : IsE w b F fv s ma mr wv xv xs rv) {w2 w6 w7 : World} {wo : Value} (f2 : Frm (isB b) w w2) (f6 : Frm noB w2 w6) (f7 : Frm (fun k => k = b ∨ w.heap.size ≤ k ∧ k < w2.heap.size) w6 w7) (ho : w6.ownsRow w2.heap.size 3 1 wo s.who.length (s.who.map iv))
    (b7 : Blk w7 b 78 #[fv, .int .i64 s.clients, .int .i64 s.most, .int .i64 2, .int .i64 s.kind, .int .i64 s.length, .int .u64 s.round, .int .i64 s.til, .map (some ma), wv, .slice none 0 0, .map (some mr)]) :
    w7.ownsRow w.heap.size 3 1 wo s.who.length (s.who.map iv) ∧ w7.ownsRow 0 35 1 xv xs.length xs ∧ OwnRows w7 xs s.boxes ∧
      IsE w7 b (fun k => F k ∧ ¬ oB xv k ∧ ∀ i (h : i < xs.length), ¬ oB xs[i] k) fv (closed s) ma mr wv (.slice none 0 0) [] rv ∧ Frm F w w7 := by
  have P := H.sep
  have s2 := f2.size
  have s6 := f6.size
  have s7 := f7.size
  have lb := H.lt b H.fb
  have g6 : Frm (isB b) w w6 := f2.trans f6 fun k _ h => h.elim
  have g7 : Frm (isB b) w w7 := g6.trans f7 fun k hk h => by
    rcases h with h | h
    · exact h
    · omega
  refine ⟨own_base (own_frm ho f7 fun k hk h => ?_) fun k hk => ?_, own_frm H.row g7 fun k hk => (P.x1 k hk).1, H.box.frm g7 fun i hi k hk => (P.i1 i hi k hk).1,
    ⟨b7, H.ask.frm g7 fun h => P.b1 (show ma = b from h).symm, H.rep.frm g7 fun h => P.b2 (show mr = b from h).symm, own_frm H.own g7 fun k hk => (P.w1 k hk).1, World.ownsRow_nil _ _ _ _,
      ⟨rfl, fun i h => absurd h (by simp), fun i j h => absurd h (by simp)⟩, H.rpl.frm g7 fun x v k hx hk => (P.r1 x v k hx hk).1, ⟨H.fb, fun h => (P.x1 b h).1 rfl, fun i hi h => (P.i1 i hi b h).1 rfl⟩, ⟨H.fa, fun h => (P.x1 ma h).2.1 rfl, fun i hi h => (P.i1 i hi ma h).2.1 rfl⟩,
      ⟨H.fr, fun h => (P.x1 mr h).2.2.1 rfl, fun i hi h => (P.i1 i hi mr h).2.2.1 rfl⟩, fun k hk => ⟨H.fw k hk, fun h => (P.x1 k h).2.2.2 hk, fun i hi h => (P.i1 i hi k h).2.2.2.1 hk⟩, fun k hk => by simp [oB, Value.ownBlock] at hk, fun i h => absurd h (by simp), fun x v k hx hk => ⟨H.fp x v k hx hk, fun h => (P.r1 x v k hx hk).2.2.2.2 h, fun j hj h => ?_⟩,
      fun x v j hj => absurd hj (by simp), H.ne, fun k hk => by have := H.lt k hk.1; omega, H.cl, H.mo, .inr (.inr rfl), H.ln, by simp [closed]⟩, g7.mono fun k _ h => (show k = b from h) ▸ H.fb⟩
  · have := (own_lt ho k hk).1
    rcases h with h | h <;> omega
  · have := (own_lt ho k hk).1; omega
  · exact H.rb x v j hj k hx hk h

set_option maxHeartbeats 1000000 in
theorem close_ok (h : IsE w b F fv s ma mr wv xv xs rv) (hp : s.phase = 1) :
    Calls Try.prog 14 #[.pointer (some ⟨b, 0, none⟩)] w fun e w' => ∃ wo F', e = .returned (.tuple #[.agg #[.int .i64 s.kind, .int .u64 s.round, wo, xv], .int .i64 0]) ∧
      w'.ownsRow w.heap.size 3 1 wo s.who.length (s.who.map iv) ∧ w'.ownsRow 0 35 1 xv xs.length xs ∧ OwnRows w' xs s.boxes ∧
      IsE w' b F' fv (closed s) ma mr wv (.slice none 0 0) [] rv ∧ (∀ k, F' k → F k ∧ ¬ oB xv k ∧ ∀ i (h : i < xs.length), ¬ oB xs[i] k) ∧ Frm F w w' := by
  obtain ⟨Aw, cw, rfl, hcw⟩ := own_slice h.own
  obtain ⟨Ax, cx, rfl, hcx⟩ := own_slice h.row
  have B := h.blk.alloc (.cells #[.int .i64 0, .int .u64 0, .slice none 0 0, .slice none 0 0] 39)
  have c3 := B.cell 3
  have z3 := B.frozen 3
  simp [hp] at c3
  have H := Lib.hid h
  have HB := Lib.hid B
  clear hp h B
  go_enter Try.func14, Try.ntmps14
  go_wp2
  have B2 := HB.out.set_ 3 (.int .i64 2)
  simp only [List.setIfInBounds_toArray, List.set_cons_succ, List.set_cons_zero] at B2
  have G2 := (Blk.new w 39 #[.int .i64 0, .int .u64 0, .slice none 0 0, .slice none 0 0]).far (p := ⟨b, 3, none⟩) (show w.heap.size ≠ b by have := H.out.blk.lt; omega) (.int .i64 2)
  have F2 : Frm (isB b) w ((w.alloc (.cells #[.int .i64 0, .int .u64 0, .slice none 0 0, .slice none 0 0] 39)).setCell ⟨b, 3, none⟩ (.int .i64 2)) := ((Frm.refl (isB b) w).alloc _).setCell (a := ⟨b, 3, none⟩) (.inl (show isB b b from rfl)) _
  clear z3 c3
  generalize (w.alloc (.cells #[.int .i64 0, .int .u64 0, .slice none 0 0, .slice none 0 0] 39)).setCell ⟨b, 3, none⟩ (.int .i64 2) = w2 at *
  have c4 := B2.cell 4
  have c6 := B2.cell 6
  have c9 := B2.cell 9
  have cx1 := B2.cell 10
  simp at c4 c6 c9 cx1
  have P := H.out.sep
  have HP := Lib.hid P
  have HB2 := Lib.hid B2
  have HG2 := Lib.hid G2
  have HF2 := Lib.hid F2
  have HR2 : Hid (Rd w2 Aw (s.who.map iv)) := Rd.of_own (own_frm H.out.own F2 fun k hk e => (P.w1 k hk).1 e)
  clear B2 G2 F2 P
  have hln : s.who.length ≤ 256 := by have := H.out.mo; have := H.out.ln; omega
  have hbg : b ≠ w2.heap.size := by have := HB2.out.lt; omega
  have hsz : w2.heap.size ≤ (w2.alloc (.cells #[.int .i64 0, .int .u64 0, .slice none 0 0, .slice none 0 0] 39)).drew.heap.size := by simp
  go_region_held3 (fun w' => w'.cell? ⟨b, 4, none⟩ = some (.int .i64 s.kind) ∧ w'.cell? ⟨b, 6, none⟩ = some (.int .u64 s.round) ∧ w'.cell? ⟨b, 9, none⟩ = some (.slice Aw s.who.length cw) ∧ w'.cell? ⟨b, 10, none⟩ = some (.slice Ax xs.length cx)) (first | exact ⟨c4, c6, c9, cx1⟩ | with_reducible exact close_held HB5.out | with_reducible exact close_held (HB5.out.alloc _) | with_reducible exact close_held (HB2.out.alloc _) | with_reducible exact close_held (HB2.out.alloc _).drew | with_reducible exact close_held (HB5.out.far (p := ⟨w2.heap.size, _, none⟩) hbg _) | with_reducible exact close_held ((HB5.out.far (p := ⟨w2.heap.size, 0, none⟩) hbg _).far (p := ⟨w2.heap.size, 1, none⟩) hbg _) | with_reducible exact close_held (((HB5.out.far (p := ⟨w2.heap.size, 0, none⟩) hbg _).far (p := ⟨w2.heap.size, 1, none⟩) hbg _).far (p := ⟨w2.heap.size, 2, none⟩) hbg _) | with_reducible exact close_held ((((HB5.out.far (p := ⟨w2.heap.size, 0, none⟩) hbg _).far (p := ⟨w2.heap.size, 1, none⟩) hbg _).far (p := ⟨w2.heap.size, 2, none⟩) hbg _).far (p := ⟨w2.heap.size, 3, none⟩) hbg _)) ((first | (refine step_app info36 rfl w2.heap.size (World.ownsRow_nil (w2.drew) w2.heap.size 3 1) _ _ rfl rfl (news := s.who.map iv) rfl (by simp) (HR2.out) (iv_one s.who) (by omega) (by omega) (Nat.le_refl _) ?_; intro A5 q5 w5 ho5 hq5 hf5 hv5; have hf5' : Frm noB w2 w5 := ((Frm.refl _ _).drew).trans' (hf5.mono fun k _ hk => by simp [oB, Value.ownBlock] at hk); have HB5 := Lib.hid (HB2.out.frm' hf5'); simp only [Nat.zero_add, List.nil_append] at ho5; have HO5 := Lib.hid ho5; have HF5 := Lib.hid hf5'; clear ho5 hf5 hv5 hf5') | (refine step_app info36 rfl w2.heap.size (World.ownsRow_nil ((w2.alloc (.cells #[.int .i64 0, .int .u64 0, .slice none 0 0, .slice none 0 0] 39)).drew) w2.heap.size 3 1) _ _ rfl rfl (news := s.who.map iv) rfl (by simp) (HR2.out.alloc _) (iv_one s.who) (by omega) (by omega) (hsz) ?_; intro A5 q5 w5 ho5 hq5 hf5 hv5; have hf5' : Frm noB w2 w5 := (((Frm.refl _ _).alloc _).drew).trans' (hf5.mono fun k _ hk => by simp [oB, Value.ownBlock] at hk); have HB5 := Lib.hid (HB2.out.frm' hf5'); have G5 := (Blk.new w2 39 #[.int .i64 0, .int .u64 0, .slice none 0 0, .slice none 0 0]).frm' (((Frm.refl _ _).drew).trans' (hf5.mono fun k _ hk => by simp [oB, Value.ownBlock] at hk)); have d0 := G5.cell 0; have d1 := G5.cell 1; have d2 := G5.cell 2; have d3 := G5.cell 3; have y0 := G5.frozen 0; have y1 := G5.frozen 1; have y2 := G5.frozen 2; have y3 := G5.frozen 3; simp at d0 d1 d2 d3; have HG5 := Lib.hid G5; clear G5; simp only [Nat.zero_add, List.nil_append] at ho5; have HO5 := Lib.hid ho5; have HF5 := Lib.hid hf5'; clear ho5 hf5 hv5 hf5')))
  · have HB6 := Lib.hid (HB5.out.alloc (.cells #[.int .i64 s.kind, .int .u64 s.round, .slice A5 s.who.length q5, .slice Ax xs.length cx] 39))
    have HT6 : Hid (Blk (w5.alloc (.cells #[.int .i64 s.kind, .int .u64 s.round, .slice A5 s.who.length q5, .slice Ax xs.length cx] 39)) w5.heap.size 39 #[.int .i64 s.kind, .int .u64 s.round, .slice A5 s.who.length q5, .slice Ax xs.length cx]) := Blk.new _ _ _
    have HG6 := Lib.hid ((HG2.out.frm' HF5.out).alloc (.cells #[.int .i64 s.kind, .int .u64 s.round, .slice A5 s.who.length q5, .slice Ax xs.length cx] 39))
    have HF6 : Hid (Frm noB w2 (w5.alloc (.cells #[.int .i64 s.kind, .int .u64 s.round, .slice A5 s.who.length q5, .slice Ax xs.length cx] 39))) := HF5.out.alloc _
    have HO6 := Lib.hid (HO5.out.alloc (.cells #[.int .i64 s.kind, .int .u64 s.round, .slice A5 s.who.length q5, .slice Ax xs.length cx] 39))
    have hg1 : b ≠ w5.heap.size := by have := HB2.out.lt; have := HF5.out.size; omega
    have hg2 : b ≠ w.heap.size := by have := H.out.blk.lt; omega
    have hg3 : w5.heap.size ≠ w.heap.size := by have := HG2.out.lt; have := HF5.out.size; omega
    clear c4 c6 c9 cx1 hbg hsz
    generalize w5.alloc (.cells #[.int .i64 s.kind, .int .u64 s.round, .slice A5 s.who.length q5, .slice Ax xs.length cx] 39) = w6 at *
    have c10 := HB6.out.cell 10
    have z10 := HB6.out.frozen 10
    simp at c10
    have B7 := HB6.out.set_ 10 (.slice none 0 0)
    have T7 := HT6.out.far (p := ⟨b, 10, none⟩) (Ne.symm hg1) (.slice none 0 0)
    have G7 := HG6.out.far (p := ⟨b, 10, none⟩) (Ne.symm hg2) (.slice none 0 0)
    have F7 : Frm (fun k => k = b ∨ w.heap.size ≤ k ∧ k < w2.heap.size) w6 (w6.setCell ⟨b, 10, none⟩ (.slice none 0 0)) := (Frm.refl _ _).setCell (a := ⟨b, 10, none⟩) (.inl (.inl rfl)) _
    have HB7 := Lib.hid B7
    have HF7 := Lib.hid F7
    clear B7 F7
    obtain ⟨w7, hw7⟩ : ∃ w7, w7 = w6.setCell ⟨b, 10, none⟩ (.slice none 0 0) := ⟨_, rfl⟩
    have HW7 := Lib.hid hw7
    rw [← hw7] at T7 G7 HB7 HF7
    clear hw7
    have t0 := HT6.out.cell 0
    have t1 := HT6.out.cell 1
    have t2 := HT6.out.cell 2
    have t3 := HT6.out.cell 3
    have g0 := HG6.out.cell 0
    have g1 := HG6.out.cell 1
    have g2 := HG6.out.cell 2
    have g3 := HG6.out.cell 3
    have y0 := HG6.out.frozen 0
    have y1 := HG6.out.frozen 1
    have y2 := HG6.out.frozen 2
    have y3 := HG6.out.frozen 3
    simp at t0 t1 t2 t3 g0 g1 g2 g3
    have hsz2 : w.heap.size < w2.heap.size := HG2.out.lt
    have G8 := (((G7.set_ 0 (.int .i64 s.kind)).set_ 1 (.int .u64 s.round)).set_ 2 (.slice A5 s.who.length q5)).set_ 3 (.slice Ax xs.length cx)
    have F8 : Frm (fun k => k = b ∨ w.heap.size ≤ k ∧ k < w2.heap.size) w7 ((((w7.setCell ⟨w.heap.size, 0, none⟩ (.int .i64 s.kind)).setCell ⟨w.heap.size, 1, none⟩ (.int .u64 s.round)).setCell ⟨w.heap.size, 2, none⟩ (.slice A5 s.who.length q5)).setCell ⟨w.heap.size, 3, none⟩ (.slice Ax xs.length cx)) :=
      ((((Frm.refl _ w7).setCell (a := ⟨w.heap.size, 0, none⟩) (.inl (.inr ⟨Nat.le_refl _, hsz2⟩)) _).setCell (a := ⟨w.heap.size, 1, none⟩) (.inl (.inr ⟨Nat.le_refl _, hsz2⟩)) _).setCell (a := ⟨w.heap.size, 2, none⟩) (.inl (.inr ⟨Nat.le_refl _, hsz2⟩)) _).setCell (a := ⟨w.heap.size, 3, none⟩) (.inl (.inr ⟨Nat.le_refl _, hsz2⟩)) _
    have B8 := (((HB7.out.far (p := ⟨w.heap.size, 0, none⟩) hg2 (.int .i64 s.kind)).far (p := ⟨w.heap.size, 1, none⟩) hg2 (.int .u64 s.round)).far (p := ⟨w.heap.size, 2, none⟩) hg2 (.slice A5 s.who.length q5)).far (p := ⟨w.heap.size, 3, none⟩) hg2 (.slice Ax xs.length cx)
    simp only [List.setIfInBounds_toArray, List.set_cons_succ, List.set_cons_zero] at G8 B8
    have HG8 := Lib.hid G8
    have HF8 := Lib.hid F8
    have HB8 := Lib.hid B8
    clear G8 F8 B8 T7 G7
    go_wp2
    rw [← HW7.out]
    generalize (((w7.setCell ⟨w.heap.size, 0, none⟩ (.int .i64 s.kind)).setCell ⟨w.heap.size, 1, none⟩ (.int .u64 s.round)).setCell ⟨w.heap.size, 2, none⟩ (.slice A5 s.who.length q5)).setCell ⟨w.heap.size, 3, none⟩ (.slice Ax xs.length cx) = w8 at *
    have e0 := HG8.out.cell 0
    have e1 := HG8.out.cell 1
    have e2 := HG8.out.cell 2
    have e3 := HG8.out.cell 3
    simp at e0 e1 e2 e3
    have hE := close_end H.out HF2.out HF6.out (HF7.out.trans HF8.out fun k _ h => h) HO6.out HB8.out
    clear t0 t1 t2 t3 g0 g1 g2 g3 y0 y1 y2 y3 z10 c10
    refine bodyPost_ret (v := .tuple #[.agg #[.int .i64 s.kind, .int .u64 s.round, .slice A5 s.who.length q5, .slice Ax xs.length cx], .int .i64 0]) ?_ rfl ⟨_, _, rfl, hE.1, hE.2.1, hE.2.2.1, hE.2.2.2.1, fun k hk => hk, hE.2.2.2.2⟩
    simp [results, Try.results14, go_sem, e0, e1, e2, e3]
  · have HB6 := Lib.hid (((((HB5.out).far (p := ⟨w2.heap.size, 0, none⟩) hbg (.int .i64 s.kind)).far (p := ⟨w2.heap.size, 1, none⟩) hbg (.int .u64 s.round)).far (p := ⟨w2.heap.size, 2, none⟩) hbg (.slice A5 s.who.length q5)).far (p := ⟨w2.heap.size, 3, none⟩) hbg (.slice Ax xs.length cx))
    have HT6 : Hid (Blk ((((w5.setCell ⟨w2.heap.size, 0, none⟩ (.int .i64 s.kind)).setCell ⟨w2.heap.size, 1, none⟩ (.int .u64 s.round)).setCell ⟨w2.heap.size, 2, none⟩ (.slice A5 s.who.length q5)).setCell ⟨w2.heap.size, 3, none⟩ (.slice Ax xs.length cx)) w2.heap.size 39 #[.int .i64 s.kind, .int .u64 s.round, .slice A5 s.who.length q5, .slice Ax xs.length cx]) := (by have h := ((((HG5.out).set_ 0 (.int .i64 s.kind)).set_ 1 (.int .u64 s.round)).set_ 2 (.slice A5 s.who.length q5)).set_ 3 (.slice Ax xs.length cx); simp only [List.setIfInBounds_toArray, List.set_cons_succ, List.set_cons_zero] at h; exact h)
    have HG6 := Lib.hid (((((HG2.out.frm' HF5.out).far (p := ⟨w2.heap.size, 0, none⟩) (Nat.ne_of_lt HG2.out.lt) (.int .i64 s.kind)).far (p := ⟨w2.heap.size, 1, none⟩) (Nat.ne_of_lt HG2.out.lt) (.int .u64 s.round)).far (p := ⟨w2.heap.size, 2, none⟩) (Nat.ne_of_lt HG2.out.lt) (.slice A5 s.who.length q5)).far (p := ⟨w2.heap.size, 3, none⟩) (Nat.ne_of_lt HG2.out.lt) (.slice Ax xs.length cx))
    have HF6 : Hid (Frm noB w2 ((((w5.setCell ⟨w2.heap.size, 0, none⟩ (.int .i64 s.kind)).setCell ⟨w2.heap.size, 1, none⟩ (.int .u64 s.round)).setCell ⟨w2.heap.size, 2, none⟩ (.slice A5 s.who.length q5)).setCell ⟨w2.heap.size, 3, none⟩ (.slice Ax xs.length cx))) := ((((HF5.out).setCell (a := ⟨w2.heap.size, 0, none⟩) (.inr (Nat.le_refl _)) _).setCell (a := ⟨w2.heap.size, 1, none⟩) (.inr (Nat.le_refl _)) _).setCell (a := ⟨w2.heap.size, 2, none⟩) (.inr (Nat.le_refl _)) _).setCell (a := ⟨w2.heap.size, 3, none⟩) (.inr (Nat.le_refl _)) _
    have HO6 := Lib.hid (own_frm HO5.out (show Frm (isB w2.heap.size) w5 ((((w5.setCell ⟨w2.heap.size, 0, none⟩ (.int .i64 s.kind)).setCell ⟨w2.heap.size, 1, none⟩ (.int .u64 s.round)).setCell ⟨w2.heap.size, 2, none⟩ (.slice A5 s.who.length q5)).setCell ⟨w2.heap.size, 3, none⟩ (.slice Ax xs.length cx)) from ((((Frm.refl (isB w2.heap.size) w5).setCell (a := ⟨w2.heap.size, 0, none⟩) (.inl (show isB w2.heap.size w2.heap.size from rfl)) _).setCell (a := ⟨w2.heap.size, 1, none⟩) (.inl (show isB w2.heap.size w2.heap.size from rfl)) _).setCell (a := ⟨w2.heap.size, 2, none⟩) (.inl (show isB w2.heap.size w2.heap.size from rfl)) _).setCell (a := ⟨w2.heap.size, 3, none⟩) (.inl (show isB w2.heap.size w2.heap.size from rfl)) _) fun k hk h => HG5.out.own_ne HO5.out (by decide) ((show k = w2.heap.size from h) ▸ hk))
    have hg1 : b ≠ w2.heap.size := by have := HB2.out.lt; have := HF5.out.size; omega
    have hg2 : b ≠ w.heap.size := by have := H.out.blk.lt; omega
    have hg3 : w2.heap.size ≠ w.heap.size := by have := HG2.out.lt; have := HF5.out.size; omega
    clear c4 c6 c9 cx1 hbg hsz d0 d1 d2 d3 y0 y1 y2 y3
    generalize (((w5.setCell ⟨w2.heap.size, 0, none⟩ (.int .i64 s.kind)).setCell ⟨w2.heap.size, 1, none⟩ (.int .u64 s.round)).setCell ⟨w2.heap.size, 2, none⟩ (.slice A5 s.who.length q5)).setCell ⟨w2.heap.size, 3, none⟩ (.slice Ax xs.length cx) = w6 at *
    have c10 := HB6.out.cell 10
    have z10 := HB6.out.frozen 10
    simp at c10
    have B7 := HB6.out.set_ 10 (.slice none 0 0)
    have T7 := HT6.out.far (p := ⟨b, 10, none⟩) (Ne.symm hg1) (.slice none 0 0)
    have G7 := HG6.out.far (p := ⟨b, 10, none⟩) (Ne.symm hg2) (.slice none 0 0)
    have F7 : Frm (fun k => k = b ∨ w.heap.size ≤ k ∧ k < w2.heap.size) w6 (w6.setCell ⟨b, 10, none⟩ (.slice none 0 0)) := (Frm.refl _ _).setCell (a := ⟨b, 10, none⟩) (.inl (.inl rfl)) _
    have HB7 := Lib.hid B7
    have HF7 := Lib.hid F7
    clear B7 F7
    obtain ⟨w7, hw7⟩ : ∃ w7, w7 = w6.setCell ⟨b, 10, none⟩ (.slice none 0 0) := ⟨_, rfl⟩
    have HW7 := Lib.hid hw7
    rw [← hw7] at T7 G7 HB7 HF7
    clear hw7
    have t0 := HT6.out.cell 0
    have t1 := HT6.out.cell 1
    have t2 := HT6.out.cell 2
    have t3 := HT6.out.cell 3
    have g0 := HG6.out.cell 0
    have g1 := HG6.out.cell 1
    have g2 := HG6.out.cell 2
    have g3 := HG6.out.cell 3
    have y0 := HG6.out.frozen 0
    have y1 := HG6.out.frozen 1
    have y2 := HG6.out.frozen 2
    have y3 := HG6.out.frozen 3
    simp at t0 t1 t2 t3 g0 g1 g2 g3
    have hsz2 : w.heap.size < w2.heap.size := HG2.out.lt
    have G8 := (((G7.set_ 0 (.int .i64 s.kind)).set_ 1 (.int .u64 s.round)).set_ 2 (.slice A5 s.who.length q5)).set_ 3 (.slice Ax xs.length cx)
    have F8 : Frm (fun k => k = b ∨ w.heap.size ≤ k ∧ k < w2.heap.size) w7 ((((w7.setCell ⟨w.heap.size, 0, none⟩ (.int .i64 s.kind)).setCell ⟨w.heap.size, 1, none⟩ (.int .u64 s.round)).setCell ⟨w.heap.size, 2, none⟩ (.slice A5 s.who.length q5)).setCell ⟨w.heap.size, 3, none⟩ (.slice Ax xs.length cx)) :=
      ((((Frm.refl _ w7).setCell (a := ⟨w.heap.size, 0, none⟩) (.inl (.inr ⟨Nat.le_refl _, hsz2⟩)) _).setCell (a := ⟨w.heap.size, 1, none⟩) (.inl (.inr ⟨Nat.le_refl _, hsz2⟩)) _).setCell (a := ⟨w.heap.size, 2, none⟩) (.inl (.inr ⟨Nat.le_refl _, hsz2⟩)) _).setCell (a := ⟨w.heap.size, 3, none⟩) (.inl (.inr ⟨Nat.le_refl _, hsz2⟩)) _
    have B8 := (((HB7.out.far (p := ⟨w.heap.size, 0, none⟩) hg2 (.int .i64 s.kind)).far (p := ⟨w.heap.size, 1, none⟩) hg2 (.int .u64 s.round)).far (p := ⟨w.heap.size, 2, none⟩) hg2 (.slice A5 s.who.length q5)).far (p := ⟨w.heap.size, 3, none⟩) hg2 (.slice Ax xs.length cx)
    simp only [List.setIfInBounds_toArray, List.set_cons_succ, List.set_cons_zero] at G8 B8
    have HG8 := Lib.hid G8
    have HF8 := Lib.hid F8
    have HB8 := Lib.hid B8
    clear G8 F8 B8 T7 G7
    go_wp2
    rw [← HW7.out]
    generalize (((w7.setCell ⟨w.heap.size, 0, none⟩ (.int .i64 s.kind)).setCell ⟨w.heap.size, 1, none⟩ (.int .u64 s.round)).setCell ⟨w.heap.size, 2, none⟩ (.slice A5 s.who.length q5)).setCell ⟨w.heap.size, 3, none⟩ (.slice Ax xs.length cx) = w8 at *
    have e0 := HG8.out.cell 0
    have e1 := HG8.out.cell 1
    have e2 := HG8.out.cell 2
    have e3 := HG8.out.cell 3
    simp at e0 e1 e2 e3
    have hE := close_end H.out HF2.out HF6.out (HF7.out.trans HF8.out fun k _ h => h) HO6.out HB8.out
    clear t0 t1 t2 t3 g0 g1 g2 g3 y0 y1 y2 y3 z10 c10
    refine bodyPost_ret (v := .tuple #[.agg #[.int .i64 s.kind, .int .u64 s.round, .slice A5 s.who.length q5, .slice Ax xs.length cx], .int .i64 0]) ?_ rfl ⟨_, _, rfl, hE.1, hE.2.1, hE.2.2.1, hE.2.2.2.1, fun k hk => hk, hE.2.2.2.2⟩
    simp [results, Try.results14, go_sem, e0, e1, e2, e3]
end
end Go.Proofs.Ytjnoddbhfcpniaa
