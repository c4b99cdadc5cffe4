/-
  EntryPlays: the law's step, Close.
-/
import Derived.Test.YtjnoddbhfcpniaaStepO
namespace Go.Proofs.Ytjnoddbhfcpniaa
open Go.RowKit
open Go.BigFrame
set_option linter.unusedVariables false
set_option linter.unusedSimpArgs false

theorem PrM.frmE {w w' : World} {I : Ids} {F G P S : Nat → Prop} {s : ES} {t : RS} {m n : Int} (h : PrM w I F G P s t m n) (hf : Frm S w w') (hS : ∀ k, (F k ∨ G k ∨ k = I.bb ∨ k = I.ab ∨ k = I.lb ∨ k = I.xb) → ¬ S k) : PrM w' I F G P s t m n :=
  ⟨h.both.frm hf (hS _ (by simp)), h.asked.frm hf (hS _ (by simp)), h.lbox.frm hf (hS _ (by simp)), h.abox.frm hf (hS _ (by simp)), h.ent.frm hf fun k hk => hS _ (.inl hk), h.ref.frm hf fun k hk => hS _ (.inr (.inl hk)), h.fg, h.fs, h.p, fun k hk => Nat.lt_of_lt_of_le (h.pl k hk) hf.size⟩
theorem sameB_n (w : World) (kind round : Int) (Aw Bw Ax Bx : Option Addr) (cw dw cx dx n1 n2 : Nat) (who : List Int) (boxes : List (List UInt8)) (xs : List Value) {N : Nat → Prop} (e1 : who.length = n1) (e2 : boxes.length = n2) (h1 : w.ownsRow 0 3 1 (.slice Aw n1 cw) n1 (who.map iv)) (h2 : Rd w Bw (who.map iv))
    (h3 : w.ownsRow 0 35 1 (.slice Ax n2 cx) n2 xs) (h4 : OwnRows w xs boxes) (h5 : RdRows w Bx boxes N) (l1 : n1 ≤ 256) (l2 : n2 ≤ 256) (l3 : ∀ l ∈ boxes, l.length ≤ 1100000) :
    Calls Try.prog 38 #[.agg #[.int .i64 kind, .int .u64 round, .slice Aw n1 cw, .slice Ax n2 cx], .agg #[.int .i64 kind, .int .u64 round, .slice Bw n1 dw, .slice Bx n2 dx]] w fun e w' =>
      e = .returned (.bool true) ∧ Frm (fun k => oB (.slice Aw n1 cw) k ∨ oB (.slice Ax n2 cx) k ∨ inV xs k) w w' := by
  subst e1; subst e2
  exact sameB_any w kind round Aw Bw Ax Bx cw dw cx dx who boxes xs h1 h2 h3 h4 h5 l1 l2 l3
/-- two empty batches -/
theorem sameB_0 (w : World) : Calls Try.prog 38 #[.agg #[.int .i64 0, .int .u64 0, .slice none 0 0, .slice none 0 0], .agg #[.int .i64 0, .int .u64 0, .slice none 0 0, .slice none 0 0]] w fun e w' => e = .returned (.bool true) ∧ Frm noB w w' :=
  (sameB_n w 0 0 none none none none 0 0 0 0 0 0 [] [] [] (N := fun _ => True) rfl rfl (World.ownsRow_nil _ _ _ _) (Rd.nil _ _) (World.ownsRow_nil _ _ _ _) ⟨rfl, fun i h => absurd h (by simp), fun i j h => absurd h (by simp)⟩ ⟨[], Rd.nil _ _, rfl, fun i h => absurd h (by simp), fun h => absurd rfl h⟩ (by omega) (by omega) (by simp)).mono fun e w' ⟨h1, h2⟩ => ⟨h1, h2.mono fun k _ hk => by
    rcases hk with h | h | ⟨i, hi, _⟩
    · simp [oB, Value.ownBlock] at h
    · simp [oB, Value.ownBlock] at h
    · simp at hi⟩
/-- both have closed: the batches, side by side -/
structure Shut2 (w w1 w5 : World) (I : Ids) (F F' G P Q : Nat → Prop) (s : ES) (t : RS) (m : Int) (Aw Ax Bw Bx : Option Addr) (cw cx : Nat) (xs : List Value) : Prop where
  M : PrM w5 I F' G Q (closed s) (rclosed t) m m
  who : w5.ownsRow w1.heap.size 3 1 (.slice Aw t.tk.length cw) t.tk.length ((t.tk.map (·.1)).map iv)
  row : w5.ownsRow 0 35 1 (.slice Ax t.tk.length cx) t.tk.length xs
  box : OwnRows w5 xs (t.tk.map (·.2))
  rw1 : Rd w5 Bw ((t.tk.map (·.1)).map iv)
  rx1 : RdRows w5 Bx (t.tk.map (·.2)) (fun _ => True)
  inF : ∀ k, (oB (.slice Ax t.tk.length cx) k ∨ ∃ i, ∃ h : i < xs.length, oB xs[i] k) → (P k ∧ k < w1.heap.size) ∧ ¬ (F' k ∨ G k ∨ k = I.bb ∨ k = I.ab ∨ k = I.lb ∨ k = I.xb)
  old : ∀ k, (F' k ∨ G k ∨ k = I.bb ∨ k = I.ab ∨ k = I.lb ∨ k = I.xb) → k < w1.heap.size
theorem Shut2.same {w w1 w5 : World} {I : Ids} {F F' G P Q : Nat → Prop} {s : ES} {t : RS} {m : Int} {Aw Ax Bw Bx : Option Addr} {cw cx dw dx : Nat} {xs : List Value} {B : Nat} (h : Shut2 w w1 w5 I F F' G P Q s t m Aw Ax Bw Bx cw cx xs) (hr : Rel s t) (hb : RB t B) (hBB : B ≤ 1048576) (hp : s.phase = 1)
    (hf : Frm P w w5) (h01 : w.heap.size ≤ w1.heap.size) (hQ : ∀ k, Q k → More P w w5 k) (hP : ∀ k, P k → k < w.heap.size) :
    Calls Try.prog 38 #[.agg #[.int .i64 t.kind, .int .u64 t.round, .slice Aw t.tk.length cw, .slice Ax t.tk.length cx], .agg #[.int .i64 t.kind, .int .u64 t.round, .slice Bw t.tk.length dw, .slice Bx t.tk.length dx]] w5 fun e w' => e = .returned (.bool true) ∧ StepTo w I P B w' := by
  have hl : t.tk.length ≤ 256 := by have := hb.lt; have := hb.mo; omega
  refine (sameB_n w5 t.kind t.round Aw Bw Ax Bx cw dw cx dx t.tk.length t.tk.length (t.tk.map (·.1)) (t.tk.map (·.2)) xs (by simp) (by simp) (own_base h.who fun _ _ => Nat.zero_le _) h.rw1 h.row h.box h.rx1 hl hl fun l hl => ?_).mono ?_
  · obtain ⟨x, hx, rfl⟩ := List.mem_map.1 hl
    have := hb.bt x hx
    omega
  rintro e w6 ⟨rfl, h6⟩
  have lw := own_lt h.who
  have s5 := hf.size
  have s6 := h6.size
  refine ⟨rfl, F', G, closed s, rclosed t, m, (h.M.frmE h6 fun k hk hS => ?_).more (fun k hk => More.up s6 k (hQ k hk)) (fun k hk => ?_), hr.closed hp, hb.closed, hf.trans h6 fun k hk hS => ?_⟩
  · rcases hS with hS | hS | hS
    · have := (lw k hS).1; have := h.old k hk; omega
    · exact (h.inF k (.inl hS)).2 hk
    · exact (h.inF k (.inr hS)).2 hk
  · rcases hk with hk | hk
    · have := hP k hk; omega
    · exact hk.2
  · rcases hS with hS | hS | hS
    · have := (lw k hS).1; omega
    · exact (h.inF k (.inl hS)).1.1
    · exact (h.inF k (.inr hS)).1.1
section
variable {w : World} {I : Ids} {F G P : Nat → Prop} {s : ES} {t : RS} {m : Int} {B : Nat}
set_option maxRecDepth 100000 in
set_option maxHeartbeats 400000 in
theorem step_close (h : PrM w I F G P s t m m) (hr : Rel s t) (hb : RB t B) (hBB : B ≤ 1048576) (kind round at_ client : Int) (A Ar : Option Addr) (data : List UInt8) (rows : List (List UInt8)) (c cr : Nat) (hD : Rd w A (data.map bv)) (hA : data ≠ [] → ∀ k, aB A k → ¬ P k) (hL : data.length ≤ B) (hR : RdRows w Ar rows (fun k => ¬ P k)) (hRl : ∀ l ∈ rows, l.length ≤ B) (hRn : rows.length ≤ B) :
    Calls Try.prog 28 #[.pointer (some ⟨I.bb, 0, none⟩), .agg #[.int .i64 4, .int .i64 kind, .int .u64 round, .int .i64 at_, .int .i64 client, .slice A data.length c, .slice Ar rows.length cr]] w fun e w' => e = .returned (.bool true) ∧ StepTo w I P B w' := by
  have f1 : Frm noB w (w.alloc (.cells #[.int .i64 4, .int .i64 kind, .int .u64 round, .int .i64 at_, .int .i64 client, .slice A data.length c, .slice Ar rows.length cr] 68)) := (Frm.refl _ _).alloc _
  have b1 : Blk (w.alloc (.cells #[.int .i64 4, .int .i64 kind, .int .u64 round, .int .i64 at_, .int .i64 client, .slice A data.length c, .slice Ar rows.length cr] 68)) w.heap.size 68 #[.int .i64 4, .int .i64 kind, .int .u64 round, .int .i64 at_, .int .i64 client, .slice A data.length c, .slice Ar rows.length cr] := Blk.new _ _ _
  have hsz1 : w.heap.size < (w.alloc (.cells #[.int .i64 4, .int .i64 kind, .int .u64 round, .int .i64 at_, .int .i64 client, .slice A data.length c, .slice Ar rows.length cr] 68)).heap.size := b1.lt
  have H1 := Lib.hid (h.frm' f1)
  have D1 := Lib.hid (hD.frm' f1)
  have W1 := Lib.hid (hR.frm' f1)
  have B1 := Lib.hid b1
  have F1 := Lib.hid f1
  have PL := Lib.hid h.pl
  have HR := Lib.hid hr
  have HB := Lib.hid hb
  have HAP := Lib.hid hA
  have HRL := Lib.hid hRl
  clear h hD f1 b1 hr hb hA hR hRl
  go_enter Try.func28, Try.ntmps28
  go_upto_region 1 with fail
  generalize w.alloc (.cells #[.int .i64 4, .int .i64 kind, .int .u64 round, .int .i64 at_, .int .i64 client, .slice A data.length c, .slice Ar rows.length cr] 68) = w1 at *
  have c0 := B1.out.cell 0
  simp at c0
  have a0 := H1.out.both.cell 0
  simp at a0
  go_wp2_with fail
  refine (close_c H1.out.ent).mono ?_
  rintro _ w2 hcl
  by_cases hp : s.phase = 1
  · obtain ⟨hp0, _⟩ | ⟨_, F', wo, xv, xs, rfl, hE, hBO, f2⟩ := hcl
    · exact absurd hp hp0
    obtain ⟨e1, e2, e3, e4, e5, e6⟩ := HR.out.kd hp
    have ew := HR.out.wh (.inl hp)
    have hop := HR.out.ph1.2 hp
    obtain ⟨Aw, cw, rfl, _⟩ := own_slice hBO.wo_
    obtain ⟨Ax, cx, rfl, _⟩ := own_slice hBO.row
    have lx : xs.length = t.tk.length := by rw [hBO.box.1, e5]; simp
    have lw : s.who.length = t.tk.length := by rw [ew]; simp
    rw [e1, e2, lw, lx]
    have M2 := Lib.hid (H1.out.entry hE f2 fun k hk => .inl (hBO.sub k hk))
    have hw := hBO.wo_
    rw [lw, ew] at hw
    have hrw := hBO.row
    rw [lx] at hrw
    have hbx := hBO.box
    rw [e5] at hbx
    have hin : ∀ k, (oB (.slice Ax t.tk.length cx) k ∨ ∃ i, ∃ h : i < xs.length, oB xs[i] k) → F k ∧ ¬ F' k := fun k hk => hBO.inF k (hk.imp (fun h => by rw [lx]; exact h) id)
    have HW2 := Lib.hid hw
    have HX2 := Lib.hid hrw
    have HBX2 := Lib.hid hbx
    have HIN := Lib.hid hin
    have HSUB := Lib.hid hBO.sub
    have F2 := Lib.hid f2
    have EQ := Lib.hid (And.intro hp hop)
    have f3 : Frm noB w2 (w2.alloc (.cells #[.int .i64 t.kind, .int .u64 t.round, .slice Aw t.tk.length cw, .slice Ax t.tk.length cx] 39)) := (Frm.refl _ _).alloc _
    have n3 : Blk (w2.alloc (.cells #[.int .i64 t.kind, .int .u64 t.round, .slice Aw t.tk.length cw, .slice Ax t.tk.length cx] 39)) w2.heap.size 39 #[.int .i64 t.kind, .int .u64 t.round, .slice Aw t.tk.length cw, .slice Ax t.tk.length cx] := Blk.new _ _ _
    have F3 := Lib.hid f3
    have N3 := Lib.hid n3
    clear a0 hE f2 hBO hw hrw hbx hin e1 e2 e3 e4 e5 e6 ew lw lx f3 n3 hp c0 hop
    try dsimp only
    go_upto_region 15 with fail
    generalize w2.alloc (.cells #[.int .i64 t.kind, .int .u64 t.round, .slice Aw t.tk.length cw, .slice Ax t.tk.length cx] 39) = w3 at *
    have M3 := Lib.hid (M2.out.frm' F3.out)
    have a1 := M3.out.both.cell 1
    simp at a1
    go_wp2_with fail
    refine (rclose_c M3.out.ref HB.out (by omega)).mono ?_
    rintro _ w4 hrc
    obtain ⟨_, Bw, dw, Bx, dx, rfl, hE4, hbw, hbwa, hbxr, f4⟩ := hrc.resolve_left fun h => by have := EQ.out.2; rw [h.1] at this; cases this
    have hGr := M3.out.ref.gb
    have rP : P I.rb := H1.out.p _ (.inr (.inl hGr))
    have f4G : Frm G w3 w4 := f4.mono fun k _ e => (show k = I.rb from e) ▸ hGr
    have M4 := Lib.hid (M3.out.refe hE4 ⟨rfl, rfl⟩ f4G (Grow.refl _ _ _))
    have hl1 := H1.out.pl
    have hrl : I.rb < w1.heap.size := hl1 _ rP
    have s2 := F2.out.size
    have N4 := Lib.hid (N3.out.frm f4 fun e => by have : w2.heap.size = I.rb := e; omega)
    have f5 : Frm noB w4 (w4.alloc (.cells #[.int .i64 t.kind, .int .u64 t.round, .slice Bw t.tk.length dw, .slice Bx t.tk.length dx] 39)) := (Frm.refl _ _).alloc _
    have n5 : Blk (w4.alloc (.cells #[.int .i64 t.kind, .int .u64 t.round, .slice Bw t.tk.length dw, .slice Bx t.tk.length dx] 39)) w4.heap.size 39 #[.int .i64 t.kind, .int .u64 t.round, .slice Bw t.tk.length dw, .slice Bx t.tk.length dx] := Blk.new _ _ _
    have s3 := F3.out.size
    have s4 := f4.size
    have s5 := f5.size
    have s0 := F1.out.size
    have HH : Hid (Shut2 w w1 (w4.alloc (.cells #[.int .i64 t.kind, .int .u64 t.round, .slice Bw t.tk.length dw, .slice Bx t.tk.length dx] 39)) I F F' G P (More (More P w1 w2) w3 w4) s t m Aw Ax Bw Bx cw cx xs) := Lib.hid ⟨M4.out.frm' f5,
      own_frm' (own_frm (own_frm' HW2.out F3.out) f4 fun q hq e => by have := (own_lt HW2.out q hq).1; have : q = I.rb := e; omega) f5,
      own_frm' (own_frm (own_frm' HX2.out F3.out) f4 fun q hq e => H1.out.fg _ (HIN.out q (.inl hq)).1 ((show q = I.rb from e) ▸ hGr)) f5,
      ((HBX2.out.frm F3.out fun _ _ _ _ h => h).frm f4 fun i hi q hq e => H1.out.fg _ (HIN.out q (.inr ⟨i, hi, hq⟩)).1 ((show q = I.rb from e) ▸ hGr)).frm f5 (fun _ _ _ _ h => h),
      hbw.frm' f5, (hbxr.frm' f5).mono fun _ _ => trivial,
      fun k hk => ⟨⟨H1.out.p k (.inl (HIN.out k hk).1), hl1 k (H1.out.p k (.inl (HIN.out k hk).1))⟩, fun h => by
        rcases h with h | h | h
        · exact (HIN.out k hk).2 h
        · exact H1.out.fg k (HIN.out k hk).1 h
        · have := H1.out.fs k (.inl (HIN.out k hk).1)
          rcases h with h | h | h | h
          · exact this.1 h
          · exact this.2.1 h
          · exact this.2.2.1 h
          · exact this.2.2.2 h⟩,
      fun k hk => hl1 k (H1.out.p k (by
        rcases hk with h | h
        · exact .inl (HSUB.out k h)
        · exact .inr h))⟩
    have FF : Hid (Frm P w (w4.alloc (.cells #[.int .i64 t.kind, .int .u64 t.round, .slice Bw t.tk.length dw, .slice Bx t.tk.length dx] 39))) := Lib.hid ((((F1.out.any.trans' (F2.out.mono fun k _ h => H1.out.p k (.inl h))).trans' F3.out.any).trans' (f4.mono fun k _ e => (show k = I.rb from e) ▸ rP)).trans' f5.any)
    have N5 := Lib.hid (N4.out.frm' f5)
    have O5 := Lib.hid n5
    have hQ : Hid (∀ k, More (More P w1 w2) w3 w4 k → More P w (w4.alloc (.cells #[.int .i64 t.kind, .int .u64 t.round, .slice Bw t.tk.length dw, .slice Bx t.tk.length dx] 39)) k) := Lib.hid fun k hk => by
      rcases hk with (hk | hk) | hk
      · exact .inl hk
      · exact .inr ⟨by omega, by omega⟩
      · exact .inr ⟨by omega, by omega⟩
    clear hE4 hbw hbwa hbxr f4 f4G f5 n5 hrc N3 N4 M2 M3 M4 HW2 HX2 HBX2 HIN HSUB a1
    try dsimp only
    go_upto_region 16 with fail
    generalize w4.alloc (.cells #[.int .i64 t.kind, .int .u64 t.round, .slice Bw t.tk.length dw, .slice Bx t.tk.length dx] 39) = w5 at *
    have y0 := N5.out.cell 0
    have y1 := N5.out.cell 1
    have y2 := N5.out.cell 2
    have y3 := N5.out.cell 3
    have x0 := O5.out.cell 0
    have x1 := O5.out.cell 1
    have x2 := O5.out.cell 2
    have x3 := O5.out.cell 3
    simp at y0 y1 y2 y3 x0 x1 x2 x3
    go_wp2_with fail
    refine (HH.out.same HR.out HB.out hBB EQ.out.1 FF.out (by omega) hQ.out PL.out).mono ?_
    rintro _ w6 ⟨rfl, hS⟩
    have HS := Lib.hid hS
    clear hS y0 y1 y2 y3 x0 x1 x2 x3
    try dsimp only
    go_wp2_with fail
    go_ret
    exact ⟨rfl, HS.out⟩
  · have hcl' : _ ∧ _ := (hcl.resolve_right fun h => hp h.1).2
    obtain ⟨rfl, hE, f2⟩ := hcl'
    have hop : t.op = false := by
      rcases hq : t.op with _ | _
      · rfl
      · exact absurd (HR.out.ph1.1 hq) hp
    have M2 := Lib.hid (H1.out.entry hE f2.any fun k hk => .inl hk)
    have F2 := Lib.hid f2
    have f3 : Frm noB w2 (w2.alloc (.cells #[.int .i64 0, .int .u64 0, .slice none 0 0, .slice none 0 0] 39)) := (Frm.refl _ _).alloc _
    have n3 : Blk (w2.alloc (.cells #[.int .i64 0, .int .u64 0, .slice none 0 0, .slice none 0 0] 39)) w2.heap.size 39 #[.int .i64 0, .int .u64 0, .slice none 0 0, .slice none 0 0] := Blk.new _ _ _
    have F3 := Lib.hid f3
    have N3 := Lib.hid n3
    clear a0 hE f2 f3 n3 c0 hcl
    try dsimp only
    go_upto_region 15 with fail
    generalize w2.alloc (.cells #[.int .i64 0, .int .u64 0, .slice none 0 0, .slice none 0 0] 39) = w3 at *
    have M3 := Lib.hid (M2.out.frm' F3.out)
    have a1 := M3.out.both.cell 1
    simp at a1
    go_wp2_with fail
    refine (rclose_c M3.out.ref HB.out (by omega)).mono ?_
    rintro _ w4 hrc
    obtain ⟨_, rfl, hE4, f4⟩ := hrc.resolve_right fun h => by rw [h.1] at hop; cases hop
    have M4 := Lib.hid (M3.out.refe hE4 ⟨rfl, rfl⟩ f4.any (Grow.refl _ _ _))
    have N4 := Lib.hid (N3.out.frm' f4)
    have f5 : Frm noB w4 (w4.alloc (.cells #[.int .i64 0, .int .u64 0, .slice none 0 0, .slice none 0 0] 39)) := (Frm.refl _ _).alloc _
    have n5 : Blk (w4.alloc (.cells #[.int .i64 0, .int .u64 0, .slice none 0 0, .slice none 0 0] 39)) w4.heap.size 39 #[.int .i64 0, .int .u64 0, .slice none 0 0, .slice none 0 0] := Blk.new _ _ _
    have s0 := F1.out.size
    have s2 := F2.out.size
    have s3 := F3.out.size
    have s4 := f4.size
    have s5 := f5.size
    have FF : Hid (Frm noB w (w4.alloc (.cells #[.int .i64 0, .int .u64 0, .slice none 0 0, .slice none 0 0] 39))) := Lib.hid ((((F1.out.trans' F2.out).trans' F3.out).trans' f4).trans' f5)
    have M5 := Lib.hid (M4.out.frm' f5)
    have N5 := Lib.hid (N4.out.frm' f5)
    have O5 := Lib.hid n5
    have hQ : Hid (∀ k, More (More P w1 w2) w3 w4 k → More P w (w4.alloc (.cells #[.int .i64 0, .int .u64 0, .slice none 0 0, .slice none 0 0] 39)) k) := Lib.hid fun k hk => by
      rcases hk with (hk | hk) | hk
      · exact .inl hk
      · exact .inr ⟨by omega, by omega⟩
      · exact .inr ⟨by omega, by omega⟩
    clear hE4 f4 f5 n5 hrc N3 N4 M2 M3 M4 a1
    try dsimp only
    go_upto_region 16 with fail
    generalize w4.alloc (.cells #[.int .i64 0, .int .u64 0, .slice none 0 0, .slice none 0 0] 39) = w5 at *
    have y0 := N5.out.cell 0
    have y1 := N5.out.cell 1
    have y2 := N5.out.cell 2
    have y3 := N5.out.cell 3
    have x0 := O5.out.cell 0
    have x1 := O5.out.cell 1
    have x2 := O5.out.cell 2
    have x3 := O5.out.cell 3
    simp at y0 y1 y2 y3 x0 x1 x2 x3
    go_wp2_with fail
    refine (sameB_0 w5).mono ?_
    rintro _ w6 ⟨rfl, f6⟩
    have M6 := Lib.hid (M5.out.frm' f6)
    have F6 := Lib.hid (FF.out.trans' f6)
    have s6 := f6.size
    clear f6 y0 y1 y2 y3 x0 x1 x2 x3
    try dsimp only
    go_wp2_with fail
    go_ret
    exact ⟨rfl, StepTo.fin M6.out HR.out HB.out F6.out.any (fun k hk => More.up s6 k (hQ.out k hk)) PL.out⟩
end
end Go.Proofs.Ytjnoddbhfcpniaa
