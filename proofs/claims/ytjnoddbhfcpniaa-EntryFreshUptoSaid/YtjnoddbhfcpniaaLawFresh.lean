/-
  EntryFresh: the walk.
-/
import Derived.Test.YtjnoddbhfcpniaaFresh
namespace Go.Proofs.Ytjnoddbhfcpniaa
open Go.RowKit
set_option linter.unusedVariables false
set_option linter.unusedSimpArgs false

/-- what the law itself holds -/
def frN (gi ga : Nat) (av : Value) (vs : List Value) : Nat → Prop := fun k => inV vs k ∨ oB av k ∨ k = gi ∨ k = ga
/-- ahead of turn m -/
structure FrI (w0 w : World) (b : Nat) (fv : Value) (s : ES) (gi ga : Nat) (av : Value) (vs : List Value) (ns : List Nat) (box reply : List UInt8) (m : Nat) : Prop where
  ent : Ent0 w0 w b fv s (frN gi ga av vs)
  ph : s.phase = 0
  cl : s.clients = 2
  mo : s.most = 2
  inn : Spared w gi box
  out : Spared w ga reply
  bag : Bag w vs ns fun _ _ => False
  row : w.ownsRow w0.heap.size 35 1 av vs.length vs
  ge : ∀ k, frN gi ga av vs k → w0.heap.size ≤ k
  ni : ¬ inV vs gi
  na : ¬ inV vs ga
  len : vs.length = 4 * m
  ns_ : ∀ i (h : i < ns.length), ns[i] ≤ 1100000
theorem FrI.lt {w0 w : World} {b : Nat} {fv : Value} {s : ES} {gi ga : Nat} {av : Value} {vs : List Value} {ns : List Nat} {box reply : List UInt8} {m : Nat} (h : FrI w0 w b fv s gi ga av vs ns box reply m) : ∀ k, frN gi ga av vs k → k < w.heap.size := fun k hk => by
  rcases hk with hk | hk | rfl | rfl
  · exact h.bag.lt k hk
  · exact (own_lt h.row k hk).2
  · exact h.inn.lt
  · exact h.out.lt

theorem Rd.laidV (w : World) (t : TypeId) (l : List Value) : Rd (w.alloc (.cells l.toArray t)) (some ⟨w.heap.size, 0, none⟩) l := by
  intro i hi
  refine ⟨_, 0, rfl, ?_⟩
  rw [Nat.zero_add, cell_of_row _ _ i l.toArray t (0, 0) (heap_alloc_new w _)]
  simp [hi]

set_option maxHeartbeats 1000000 in
theorem FrI.next {w0 wr w15 w16 : World} {b : Nat} {fv : Value} {s s' : ES} {gi ga : Nat} {av av' : Value} {vs : List Value} {ns : List Nat} {box reply : List UInt8} {m : Nat} (h : FrI w0 wr b fv s gi ga av vs ns box reply m) (hm : m < 2) (l1 : box.length ≤ 1100000) (l2 : reply.length ≤ 1100000)
    (G : Frm (nN w0 (frN gi ga av vs)) wr w15) {x0 x1 y z : Value} (o0 : w15.ownsRow 0 5 1 x0 box.length (box.map bv)) (o1 : w15.ownsRow 0 5 1 x1 box.length (box.map bv)) (oy : w15.ownsRow 0 5 1 y reply.length (reply.map bv)) (oz : w15.ownsRow 0 5 1 z reply.length (reply.map bv))
    (d0 : ∀ k, oB x0 k → nN w0 (frN gi ga av vs) k) (d1 : ∀ k, oB x1 k → nN w0 (frN gi ga av vs) k ∧ ¬ oB x0 k) (dy : ∀ k, oB y k → nN w0 (frN gi ga av vs) k ∧ ¬ oB x0 k ∧ ¬ oB x1 k) (dz : ∀ k, oB z k → nN w0 (frN gi ga av vs) k ∧ ¬ oB x0 k ∧ ¬ oB x1 k ∧ ¬ oB y k)
    {N : Nat → Prop} (hE : Ent0 w0 w15 b fv s' N) (hN : ∀ k, frN gi ga av vs k ∨ oB x0 k ∨ oB x1 k ∨ oB y k ∨ oB z k → N k) (hp : s'.phase = 0) (hc : s'.clients = 2) (hmo : s'.most = 2)
    (hf : Frm (oB av) w15 w16) (ho : w16.ownsRow w0.heap.size 35 1 av' (vs.length + 4) (vs ++ [x0, x1, y, z])) (hv : ∀ k, oB av' k → oB av k ∨ w15.heap.size ≤ k) :
    FrI w0 w16 b fv s' gi ga av' (vs ++ [x0, x1, y, z]) (ns ++ [box.length, box.length, reply.length, reply.length]) box reply (m + 1) := by
  have row15 : w15.ownsRow w0.heap.size 35 1 av vs.length vs := own_frm h.row G fun k hk hn => hn.2 (.inr (.inl hk))
  have bag15 : Bag w15 vs ns fun _ _ => False := h.bag.frm G fun k hk hn => hn.2 (.inl hk)
  have bag16 : Bag w16 vs ns fun _ _ => False := bag15.frm hf fun k ⟨i, hi, hk⟩ hn => by
    obtain ⟨xs, h1, _⟩ := bag15.each i hi (by have := bag15.len; omega)
    exact own_own_ne h1 row15 (by decide) hk hn
  have p0 := own_frm o0 hf fun k hk => own_own_ne o0 row15 (by decide) hk
  have p1 := own_frm o1 hf fun k hk => own_own_ne o1 row15 (by decide) hk
  have py := own_frm oy hf fun k hk => own_own_ne oy row15 (by decide) hk
  have pz := own_frm oz hf fun k hk => own_own_ne oz row15 (by decide) hk
  have b4 := (((bag16.snoc p0 fun k hk hn => (d0 k hk).2 (.inl hn)).snoc p1 fun k hk hn => by
    rcases inV_snoc hn with hn | hn
    · exact (d1 k hk).1.2 (.inl hn)
    · exact (d1 k hk).2 hn).snoc py fun k hk hn => by
    rcases inV_snoc hn with hn | hn
    · rcases inV_snoc hn with hn | hn
      · exact (dy k hk).1.2 (.inl hn)
      · exact (dy k hk).2.1 hn
    · exact (dy k hk).2.2 hn).snoc pz fun k hk hn => by
    rcases inV_snoc hn with hn | hn
    · rcases inV_snoc hn with hn | hn
      · rcases inV_snoc hn with hn | hn
        · exact (dz k hk).1.2 (.inl hn)
        · exact (dz k hk).2.1 hn
      · exact (dz k hk).2.2.1 hn
    · exact (dz k hk).2.2.2 hn
  simp only [List.append_assoc, List.cons_append, List.nil_append] at b4
  have i4 : ∀ k, inV (vs ++ [x0, x1, y, z]) k → inV vs k ∨ oB x0 k ∨ oB x1 k ∨ oB y k ∨ oB z k := fun k hk => by
    have e : vs ++ [x0, x1, y, z] = (((vs ++ [x0]) ++ [x1]) ++ [y]) ++ [z] := by simp
    rw [e] at hk
    rcases inV_snoc hk with hk | hk
    · rcases inV_snoc hk with hk | hk
      · rcases inV_snoc hk with hk | hk
        · rcases inV_snoc hk with hk | hk
          · exact .inl hk
          · exact .inr (.inl hk)
        · exact .inr (.inr (.inl hk))
      · exact .inr (.inr (.inr (.inl hk)))
    · exact .inr (.inr (.inr (.inr hk)))
  have hs := hE.size
  have ge4 : ∀ k, frN gi ga av' (vs ++ [x0, x1, y, z]) k → w0.heap.size ≤ k := fun k hk => by
    rcases hk with hk | hk | hk | hk
    · rcases i4 k hk with hk | hk | hk | hk | hk
      · exact h.ge k (.inl hk)
      · exact (d0 k hk).1
      · exact (d1 k hk).1.1
      · exact (dy k hk).1.1
      · exact (dz k hk).1.1
    · rcases hv k hk with hk | hk
      · exact h.ge k (.inr (.inl hk))
      · omega
    · exact h.ge k (.inr (.inr (.inl hk)))
    · exact h.ge k (.inr (.inr (.inr hk)))
  refine ⟨?_, hp, hc, hmo, (h.inn.frm G fun hn => hn.2 (.inr (.inr (.inl rfl)))).frm hf fun hn => ?_, (h.out.frm G fun hn => hn.2 (.inr (.inr (.inr rfl)))).frm hf fun hn => ?_, b4, by simpa using ho, ge4, fun hk => ?_, fun hk => ?_, by simp [h.len]; omega, fun i hi => ?_⟩
  · have h1 := hE.more (M := fun k => frN gi ga av' (vs ++ [x0, x1, y, z]) k ∨ oB av k) fun k hk => by
      rcases hk with (hk | hk | hk | hk) | hk
      · rcases i4 k hk with hk | hk
        · exact .inl (hN k (.inl (.inl hk)))
        · exact .inl (hN k (.inr hk))
      · rcases hv k hk with hk | hk
        · exact .inl (hN k (.inl (.inr (.inl hk))))
        · exact .inr (.inl hk)
      · exact .inl (hN k (.inl (.inr (.inr (.inl hk)))))
      · exact .inl (hN k (.inl (.inr (.inr (.inr hk)))))
      · exact .inl (hN k (.inl (.inr (.inl hk))))
    exact (h1.put (hf.mono fun k _ hk => .inr hk) fun k hk => by
      rcases hk with hk | hk
      · exact ge4 k hk
      · exact h.ge k (.inr (.inl hk))).more fun k hk => .inl (.inl hk)
  · obtain ⟨cs, hb, _⟩ := h.inn.frm G fun hn => hn.2 (.inr (.inr (.inl rfl)))
    exact hb.own_ne row15 (by decide) hn
  · obtain ⟨cs, hb, _⟩ := h.out.frm G fun hn => hn.2 (.inr (.inr (.inr rfl)))
    exact hb.own_ne row15 (by decide) hn
  · rcases i4 gi hk with hk | hk | hk | hk | hk
    · exact h.ni hk
    · exact (d0 _ hk).2 (.inr (.inr (.inl rfl)))
    · exact (d1 _ hk).1.2 (.inr (.inr (.inl rfl)))
    · exact (dy _ hk).1.2 (.inr (.inr (.inl rfl)))
    · exact (dz _ hk).1.2 (.inr (.inr (.inl rfl)))
  · rcases i4 ga hk with hk | hk | hk | hk | hk
    · exact h.na hk
    · exact (d0 _ hk).2 (.inr (.inr (.inr rfl)))
    · exact (d1 _ hk).1.2 (.inr (.inr (.inr rfl)))
    · exact (dy _ hk).1.2 (.inr (.inr (.inr rfl)))
    · exact (dz _ hk).1.2 (.inr (.inr (.inr rfl)))
  · by_cases e : i < ns.length
    · rw [List.getElem_append_left e]; exact h.ns_ i e
    · rw [List.getElem_append_right (by omega)]
      have hall : ∀ x ∈ [box.length, box.length, reply.length, reply.length], x ≤ 1100000 := by
        intro x hx
        simp at hx
        rcases hx with rfl | rfl <;> assumption
      exact hall _ (List.getElem_mem _)

set_option maxRecDepth 100000 in
set_option maxHeartbeats 4000000 in
theorem entryFresh_any (A B : Option Addr) (box reply : List UInt8) (c d : Nat) (w : World) (hx : Rd w A (box.map bv)) (hy : Rd w B (reply.map bv)) (h1 : box.length ≤ 1100000) (h2 : reply.length ≤ 1100000) :
    Calls Try.prog 4 #[.slice A box.length c, .slice B reply.length d] w fun e w' => e = .returned (.bool true) ∧ Frm noB w w' := by
  have HX := Lib.hid hx
  have HY := Lib.hid hy
  have hL1 : Len box.length := Nat.le_trans h1 (by decide)
  have hL2 : Len reply.length := Nat.le_trans h2 (by decide)
  have HL1 := Lib.hid hL1
  have HL2 := Lib.hid hL2
  clear hx hy hL1 hL2
  go_enter Try.func4, Try.ntmps4
  go_wp2_with fail
  refine (awake_any w).mono ?_
  rintro e w1 ⟨rfl, hf⟩
  have HF1 := Lib.hid hf
  clear hf
  try dsimp only
  go_wp2_with fail
  have hcell : (w1.alloc (.cells #[.int .i64 (box.length : Int)] 3)).cell? ⟨w1.heap.size, 0, none⟩ = some (.int .i64 (box.length : Int)) := by
    rw [cell_of_row _ _ 0 #[.int .i64 (box.length : Int)] 3 (0, 0) (heap_alloc_new w1 _)]; rfl
  have hF0 : Frm noB w (w1.alloc (.cells #[.int .i64 (box.length : Int)] 3)) := HF1.out.alloc _
  generalize w1.alloc (.cells #[.int .i64 (box.length : Int)] 3) = w0 at *
  have HC := Lib.hid hcell
  have HF0 := Lib.hid hF0
  clear hcell hF0 HF1
  refine (new0 (.func 23) #[.pointer (some ⟨w1.heap.size, 0, none⟩)] 2 2 w0 (by decide)).mono ?_
  rintro e w2 ⟨b, rfl, hE, hf⟩
  have HE := Lib.hid hE
  have HF2 := Lib.hid (HF0.out.trans' hf)
  clear hE hf
  try dsimp only
  go_wp2_with fail
  refine (spare_any A box c w2 (HX.out.frm' HF2.out) (by omega)).mono ?_
  rintro e w3 ⟨gi, rfl, hgi, hsi, hf⟩
  have HF3 := Lib.hid (HF2.out.trans' hf)
  have HF23 := Lib.hid hf
  have HE3 := Lib.hid (HE.out.frm hf)
  have HGI := Lib.hid hgi
  have HSI := Lib.hid hsi
  clear hgi hsi hf
  try dsimp only
  go_wp2_with fail
  refine (spare_any B reply d w3 (HY.out.frm' HF3.out) (by omega)).mono ?_
  rintro e w4 ⟨ga, rfl, hga, hsa, hf⟩
  have h0 : FrI w0 w4 b _ (es0 2 2) gi ga (.slice none 0 0) [] [] box reply 0 :=
    have hs2 := HE.out.size
    have hs3 := HE3.out.size
    have hgi := HGI.out
    ⟨(HE.out.more (M := frN gi ga (.slice none 0 0) []) fun k hk => by
      rcases hk with hk | hk | rfl | rfl
      · exact absurd hk inV_nil
      · simp [oB, Value.ownBlock] at hk
      · exact .inr (.inl hgi)
      · right; left; have := HF23.out.size; omega).frm (HF23.out.trans' hf), rfl, rfl, rfl, HSI.out.frm' hf, hsa, Bag.none _, World.ownsRow_nil _ _ _ _, fun k hk => by
        rcases hk with hk | hk | rfl | rfl
        · exact absurd hk inV_nil
        · simp [oB, Value.ownBlock] at hk
        · omega
        · omega, inV_nil, inV_nil, rfl, fun i h => absurd h (by simp)⟩
  have H0 := Lib.hid h0
  clear h0 hga hsa hf HE3 HE HSI HGI
  try dsimp only
  go_wp2_with fail
  go_loopw [10, 11] (fun av t wr => ∃ (m : Nat) (s : ES) (vs : List Value) (ns : List Nat), m ≤ 2 ∧ t = .int .i64 m ∧ FrI w0 wr b (.func (.func 23) #[] #[.pointer (some ⟨w1.heap.size, 0, none⟩)]) s gi ga av vs ns box reply m) (fun _ t _ => 2 - (intOf t).toNat)
  case atStart => exact ⟨0, _, _, _, by omega, rfl, H0.out⟩
  case round =>
    obtain ⟨m, s, vs, ns, hm, rfl, hI⟩ := hrel
    obtain ⟨Ag, cv, rfl, _⟩ := own_slice hI.row
    have HI := Lib.hid hI
    clear hI
    by_cases hlt : m < 2
    · go_wp2_with fail
      have e0 : openErr s 1 1 = 0 := by simp [openErr, HI.out.ph]
      refine (openF HI.out.ent HC.out 1 1 0).mono ?_
      rintro e w5 ⟨rfl, hE, hf⟩
      rw [e0] at hE ⊢
      have HE5 : Hid (Ent0 w0 w5 b _ (opened s 1 1 0 box.length) (frN gi ga (.slice Ag vs.length cv) vs)) := hE
      have HF5 := Lib.hid hf
      have hgi5 := HI.out.inn.frm hf fun h => h.2 (.inr (.inr (.inl rfl)))
      have HG5 := Lib.hid hgi5
      have hlt5 : ∀ k, frN gi ga (.slice Ag vs.length cv) vs k → k < w5.heap.size := fun k hk => Nat.lt_of_lt_of_le (HI.out.lt k hk) hf.size
      have HT5 := Lib.hid hlt5
      clear hE hf hgi5 hlt5 e0
      try dsimp only
      go_wp2_with fail
      refine (sub1 HE5.out HT5.out 0 box (some ⟨gi, 0, none⟩) (box.length + 80) HG5.out.rd (fun k ⟨a, ha, hk⟩ => by cases ha; exact .inl (.inr (.inr (.inl hk.symm)))) HL1.out).mono ?_
      rintro e w6 ⟨rfl, hE, hf⟩
      have e0 : subErr (opened s 1 1 0 box.length) 0 box = 0 := by simp [subErr, opened, HI.out.cl, HI.out.mo, mget, mfind]
      rw [subTo, e0] at hE
      rw [e0]
      have HE6 : Hid (Ent0 w0 w6 b _ (taken (opened s 1 1 0 box.length) 0 box) (frN gi ga (.slice Ag vs.length cv) vs)) := hE
      have HF6 := Lib.hid (HF5.out.trans' hf)
      have HG6 := Lib.hid (HG5.out.frm hf fun h => h.2 (.inr (.inr (.inl rfl))))
      have HT6 := Lib.hid fun k hk => Nat.lt_of_lt_of_le (HT5.out k hk) hf.size
      clear hE hf e0 HE5 HG5 HT5 HF5
      try dsimp only
      go_wp2_with fail
      refine (sub1 HE6.out HT6.out 1 box (some ⟨gi, 0, none⟩) (box.length + 80) HG6.out.rd (fun k ⟨a, ha, hk⟩ => by cases ha; exact .inl (.inr (.inr (.inl hk.symm)))) HL1.out).mono ?_
      rintro e w7 ⟨rfl, hE, hf⟩
      have e0 : subErr (taken (opened s 1 1 0 box.length) 0 box) 1 box = 0 := by simp [subErr, taken, opened, HI.out.cl, HI.out.mo, mget, mput, mfind]
      rw [subTo, e0] at hE
      rw [e0]
      obtain ⟨s3, hp3, hk3, hr3, hw3, hb3, hc3, hm3, hE⟩ : ∃ s3 : ES, s3.phase = 1 ∧ s3.kind = 1 ∧ s3.round = 1 ∧ s3.who = [0, 1] ∧ s3.boxes = [box, box] ∧ s3.clients = 2 ∧ s3.most = 2 ∧ Ent0 w0 w7 b _ s3 (frN gi ga (.slice Ag vs.length cv) vs) :=
        ⟨taken (taken (opened s 1 1 0 box.length) 0 box) 1 box, rfl, rfl, rfl, rfl, rfl, HI.out.cl, HI.out.mo, hE⟩
      have HE7 := Lib.hid hE
      have HF7 := Lib.hid (HF6.out.trans' hf)
      have HT7 := Lib.hid fun k hk => Nat.lt_of_lt_of_le (HT6.out k hk) hf.size
      clear hE hf e0 HE6 HG6 HT6 HF6
      try dsimp only
      go_wp2_with fail
      refine (close1 HE7.out hp3).mono ?_
      rintro e w8 ⟨Aw, cw, Ax, cx, xs, rfl, hrow, hbox, hin, hE, hf⟩
      rw [hk3, hr3, hw3, show ([0, 1] : List Int).length = 2 from rfl]
      rw [hb3] at hbox
      have hxl : xs.length = 2 := hbox.1
      obtain ⟨x0, x1, rfl⟩ : ∃ x0 x1, xs = [x0, x1] := by
        rcases xs with _ | ⟨x0, _ | ⟨x1, _ | _⟩⟩ <;> simp at hxl
        exact ⟨x0, x1, rfl⟩
      have HRow : Hid (w8.ownsRow 0 35 1 (.slice Ax 2 cx) 2 [x0, x1]) := hrow
      have HBox := Lib.hid hbox
      have HIn : Hid (∀ k, boxB (.slice Ax 2 cx) [x0, x1] k → nN w0 (frN gi ga (.slice Ag vs.length cv) vs) k ∧ k < w7.heap.size) := hin
      have HE8 : Hid (Ent0 w0 w8 b _ (closed s3) (fun k => frN gi ga (.slice Ag vs.length cv) vs k ∨ boxB (.slice Ax 2 cx) [x0, x1] k)) := hE
      have HF8 := Lib.hid (HF7.out.trans' hf)
      have HF78 := Lib.hid hf
      rw [show [x0, x1].length = 2 from rfl]
      clear hrow hbox hin hE hf hxl HE7 HF7
      try dsimp only
      go_wp2_with fail
      have hb9 := Blk.new w8 39 #[.int .i64 1, .int .u64 1, .slice Aw 2 cw, .slice Ax 2 cx]
      have hf9 : Frm noB w8 (w8.alloc (.cells #[.int .i64 1, .int .u64 1, .slice Aw 2 cw, .slice Ax 2 cx] 39)) := (Frm.refl _ _).alloc _
      have hs9 : (w8.alloc (.cells #[.int .i64 1, .int .u64 1, .slice Aw 2 cw, .slice Ax 2 cx] 39)).heap.size = w8.heap.size + 1 := by simp
      generalize (w8.alloc (.cells #[.int .i64 1, .int .u64 1, .slice Aw 2 cw, .slice Ax 2 cx] 39)) = w9 at *
      have hb3 := hb9.cell 3
      simp at hb3
      have HB9 := Lib.hid hb9
      have HF9 := Lib.hid hf9
      have HS9 := Lib.hid hs9
      clear hb9 hf9 hs9
      obtain ⟨N9, hN9, hM9, hg9, hlt9, hge9, hE9⟩ : ∃ N9 : Nat → Prop, (∀ k, frN gi ga (.slice Ag vs.length cv) vs k → N9 k) ∧ (∀ k, boxB (.slice Ax 2 cx) [x0, x1] k → N9 k) ∧ N9 w8.heap.size ∧ (∀ k, N9 k → k < w9.heap.size) ∧ (∀ k, N9 k → w0.heap.size ≤ k) ∧ Ent0 w0 w9 b _ (closed s3) N9 := by
        have z0 := HE8.out.size
        have z8 := HF8.out.size
        have z78 := HF78.out.size
        have z9 := HS9.out
        refine ⟨fun k => (frN gi ga (.slice Ag vs.length cv) vs k ∨ boxB (.slice Ax 2 cx) [x0, x1] k) ∨ k = w8.heap.size, fun k h => .inl (.inl h), fun k h => .inl (.inr h), .inr rfl, fun k h => ?_, fun k h => ?_, (HE8.out.more fun k h => ?_).frm HF9.out⟩
        · rcases h with (h | h) | h
          · have := HI.out.lt k h; omega
          · have := (HIn.out k h).2; omega
          · omega
        · rcases h with (h | h) | h
          · exact HI.out.ge k h
          · exact (HIn.out k h).1.1
          · omega
        · rcases h with h | h
          · exact .inl h
          · right; left; omega
      have HN9 := Lib.hid hN9
      have HM9 := Lib.hid hM9
      have HG9 := Lib.hid hg9
      have HLT9 := Lib.hid hlt9
      have HGE9 := Lib.hid hge9
      have HE9 := Lib.hid hE9
      have HRR := Lib.hid ((OwnRows.rdRows (xs := [x0, x1]) HRow.out HBox.out).frm' HF9.out)
      clear hN9 hM9 hg9 hlt9 hge9 hE9 HE8
      have hrx : Rd w9 A (box.map bv) := HX.out.frm' (HF0.out.trans' HE9.out.old)
      refine (eqRows_any Ax (some ⟨w8.heap.size + 1, 0, none⟩) [box, box] [box, box] cx 2 _ (HRR.out.frm' ((Frm.refl _ _).alloc _)) (laid2 w9 (N := fun _ => True) c hrx (fun _ _ => trivial) (w8.heap.size + 1) HS9.out.symm) (Len.of (by simp)) (Len.of (by simp)) (by intro l hl; simp at hl; subst hl; exact HL1.out) (by intro l hl; simp at hl; subst hl; exact HL1.out)).mono ?_
      rintro e w10 ⟨rfl, hf⟩
      rw [show eql [box, box] [box, box] = true from eql_true rfl]
      have HFm10 := Lib.hid (((Frm.refl noB w9).alloc (.cells #[.slice A box.length c, .slice A box.length c] 35)).trans' hf)
      have HSA := Lib.hid (((HI.out.out.frm HF8.out fun h => h.2 (.inr (.inr (.inr rfl)))).frm' HF9.out).frm' HFm10.out)
      clear hrx hf hb3
      try dsimp only
      go_wp2_with fail
      refine (ans0 (HE9.out.frm HFm10.out) (fun k hk => Nat.lt_of_lt_of_le (HLT9.out k hk) HFm10.out.size) (some ⟨w10.heap.size, 0, none⟩) [reply, reply] 2 ((Frm.refl _ _).alloc _) (laid2 w10 (N := fun k => k = ga) (reply.length + 80) HSA.out.rd (fun k ⟨a, ha, hk⟩ => by cases ha; exact hk.symm) w10.heap.size rfl) (fun k hk => by
        rcases hk with rfl | rfl
        · exact .inl (HN9.out _ (.inr (.inr (.inr rfl))))
        · exact .inr (.inl (Nat.le_refl _))) (by intro l hl; simp at hl; subst hl; exact HL2.out)).mono ?_
      rintro e w11 ⟨rfl, hE, hf⟩
      have e0 : ansErr (closed s3) ([reply, reply] : List (List UInt8)).length = 0 := by simp [ansErr, closed, hw3]
      rw [e0] at hE ⊢
      obtain ⟨s6, hp6, hc6, hm6, hr60, hr61, hE⟩ : ∃ s6 : ES, s6.phase = 0 ∧ s6.clients = 2 ∧ s6.most = 2 ∧ s6.replies 0 = some reply ∧ s6.replies 1 = some reply ∧ Ent0 w0 w11 b _ s6 N9 :=
        ⟨answered (closed s3) [reply, reply], rfl, hc3, hm3, by simp [answered, closed, hw3, repl], by simp [answered, closed, hw3, repl], hE⟩
      have HE11 := Lib.hid hE
      have HFm11 := Lib.hid (((HFm10.out.alloc (.cells #[.slice (some ⟨ga, 0, none⟩) reply.length (reply.length + 80), .slice (some ⟨ga, 0, none⟩) reply.length (reply.length + 80)] 35)).any (S := nN w0 N9)).trans' hf)
      clear hE hf e0 HSA HE9
      try dsimp only
      go_wp2_with fail
      refine (col1 HE11.out 0 (by omega) reply hr60).mono ?_
      rintro e w12 ⟨Ay, cy, rfl, ho, hn, hE, hf⟩
      have HO12 := Lib.hid ho
      have HN12 := Lib.hid hn
      have HE12 := Lib.hid hE
      have HFm12 := Lib.hid (HFm11.out.trans' hf)
      clear ho hn hE hf HE11
      try dsimp only
      go_wp2_with fail
      refine (col1 HE12.out 1 (show (0 : Int) ≤ 1 ∧ (1 : Int) < s6.clients by omega) reply hr61).mono ?_
      rintro e w13 ⟨Az, cz, rfl, ho, hn, hE, hf⟩
      have HO13 := Lib.hid ho
      have HN13 := Lib.hid hn
      have HE13 := Lib.hid hE
      have HFm13 := Lib.hid (HFm12.out.trans hf fun k _ h => ⟨h.1, fun hn => h.2 (.inl hn)⟩)
      have HO12' := Lib.hid (own_frm HO12.out hf fun k hk h => h.2 (.inr hk))
      have HF13 := Lib.hid hf.size
      clear ho hn hE hf HE12
      have hry : Rd w13 B (reply.map bv) := HY.out.frm' (HF0.out.trans' HE13.out.old)
      have HRY := Lib.hid hry
      clear hry
      try dsimp only
      go_wp2_with fail
      refine (eqBytes_any Ay B reply reply cy d _ (Rd.of_own HO12'.out) HRY.out HL2.out HL2.out).mono ?_
      rintro e w14 ⟨rfl, hf⟩
      rw [show eql reply reply = true from eql_true rfl]
      have HF14 := Lib.hid hf
      clear hf
      try dsimp only
      go_wp2_with fail
      refine (eqBytes_any Az B reply reply cz d _ ((Rd.of_own HO13.out).frm' HF14.out) (HRY.out.frm' HF14.out) HL2.out HL2.out).mono ?_
      rintro e w15 ⟨rfl, hf⟩
      rw [show eql reply reply = true from eql_true rfl]
      have HF15 := Lib.hid (HF14.out.trans' hf)
      clear hf
      try dsimp only
      go_wp2_with fail
      have hf8 := HF8.out.trans' (HF9.out.any (S := nN w0 (frN gi ga (.slice Ag vs.length cv) vs)))
      have hG : Frm (nN w0 (frN gi ga (.slice Ag vs.length cv) vs)) wr w15 := (hf8.trans' (HFm13.out.mono fun k _ hk => ⟨hk.1, fun hn => hk.2 (HN9.out k hn)⟩)).trans' HF15.out.any
      have hb15 := (HB9.out.frm HFm13.out (fun h => h.2 HG9.out)).frm' HF15.out
      have hr15 := own_frm' (own_frm (own_frm' HRow.out HF9.out) HFm13.out fun k hk h => h.2 (HM9.out k (.inl hk))) HF15.out
      have q0 := HBox.out.2.1 0 (by simp) (by simp)
      have q1 := HBox.out.2.1 1 (by simp) (by simp)
      have q01 : ∀ k, oB x0 k → ¬ oB x1 k := fun k hk => HBox.out.2.2 0 1 (by simp) (by simp) k (by decide) hk
      simp only [List.getElem_cons_zero, List.getElem_cons_succ] at q0 q1
      obtain ⟨A0, c0, rfl, _⟩ := own_slice q0
      obtain ⟨A1, c1, rfl, _⟩ := own_slice q1
      have o0 := own_frm' (own_frm (own_frm' q0 HF9.out) HFm13.out fun k hk h => h.2 (HM9.out k (.inr ⟨0, by simp, hk⟩))) HF15.out
      have o1 := own_frm' (own_frm (own_frm' q1 HF9.out) HFm13.out fun k hk h => h.2 (HM9.out k (.inr ⟨1, by simp, hk⟩))) HF15.out
      have hav := own_frm HI.out.row hG fun k hk hn => hn.2 (.inr (.inl hk))
      have hvl : vs.length ≤ 8 := by have := HI.out.len; omega
      obtain ⟨gx, rfl⟩ : ∃ g, Ax = some ⟨g, 0, none⟩ := by
        rcases hr15.2 with ⟨_, h0⟩ | ⟨g, cap, cur, e, _⟩
        · omega
        · injection e with e; exact ⟨g, e⟩
      have z3 := hb15.cell 3
      simp at z3
      have z0 := hr15.cellAt 0 (by decide)
      have z1 := hr15.cellAt 1 (by decide)
      simp at z0 z1
      have hsz : w0.heap.size ≤ w15.heap.size := Nat.le_trans HE13.out.size HF15.out.size
      have HG := Lib.hid hG
      have HQ01 := Lib.hid q01
      have HO0 := Lib.hid o0
      have HO1 := Lib.hid o1
      have HAV := Lib.hid hav
      have HOY := Lib.hid (own_frm' HO12'.out HF15.out)
      have HOZ := Lib.hid (own_frm' HO13.out HF15.out)
      have HE15 := Lib.hid (HE13.out.frm HF15.out)
      have HD0 := Lib.hid fun k hk => (HIn.out k (.inr ⟨0, by simp, hk⟩)).1
      have HD1 := Lib.hid fun k hk => (HIn.out k (.inr ⟨1, by simp, hk⟩)).1
      have HM0 := Lib.hid fun k (hk : oB (.slice A0 box.length c0) k) => HM9.out k (.inr ⟨0, by simp, hk⟩)
      have HM1 := Lib.hid fun k (hk : oB (.slice A1 box.length c1) k) => HM9.out k (.inr ⟨1, by simp, hk⟩)
      clear hf8 hG hb15 hr15 q0 q1 q01 o0 o1 hav
      go_region_law (first | (refine step_app info37 rfl w0.heap.size (own_frm' HAV.out ((Frm.refl noB w15).drew.alloc _)) _ _ rfl rfl (A := some ⟨w15.heap.size, 0, none⟩) (m := 4) (c := 4) (news := [.slice A0 box.length c0, .slice A1 box.length c1, .slice Ay reply.length cy, .slice Az reply.length cz]) rfl rfl (Rd.laidV w15.drew _ [.slice A0 box.length c0, .slice A1 box.length c1, .slice Ay reply.length cy, .slice Az reply.length cz]) (by intro u hu; simp at hu; rcases hu with rfl | rfl | rfl | rfl <;> rfl) (by omega) (by omega) (Nat.le_trans hsz ((Frm.refl noB w15).drew.alloc _).size) ?_; intro A16 c16 w16 ho16 hc16 hf16 hv16; have HO16 := Lib.hid ho16; have HF16 := Lib.hid hf16; have HV16 := Lib.hid hv16; clear ho16 hf16 hv16))
      all_goals go_wp2
      all_goals (refine ⟨⟨m + 1, collected (collected s6 0) 1, vs ++ [.slice A0 box.length c0, .slice A1 box.length c1, .slice Ay reply.length cy, .slice Az reply.length cz], ns ++ [box.length, box.length, reply.length, reply.length], by omega, by go_num, ?_⟩, by simp [intOf]; omega⟩)
      all_goals
        exact HI.out.next hlt h1 h2 HG.out HO0.out HO1.out HOY.out HOZ.out HD0.out (fun k hk => ⟨HD1.out k hk, fun h => HQ01.out k h hk⟩)
            (fun k hk => ⟨⟨(HN12.out k hk).1.1, fun hn => (HN12.out k hk).1.2 (HN9.out k hn)⟩, fun h => (HN12.out k hk).1.2 (HM0.out k h), fun h => (HN12.out k hk).1.2 (HM1.out k h)⟩)
            (fun k hk => ⟨⟨(HN13.out k hk).1.1, fun hn => (HN13.out k hk).1.2 (.inl (HN9.out k hn))⟩, fun h => (HN13.out k hk).1.2 (.inl (HM0.out k h)), fun h => (HN13.out k hk).1.2 (.inl (HM1.out k h)), fun h => (HN13.out k hk).1.2 (.inr h)⟩)
            HE15.out (fun k hk => by
              rcases hk with hk | hk | hk | hk | hk
              · exact .inl (.inl (HN9.out k hk))
              · exact .inl (.inl (HM0.out k hk))
              · exact .inl (.inl (HM1.out k hk))
              · exact .inl (.inr hk)
              · exact .inr hk) hp6 hc6 hm6 (((Frm.refl _ w15).drew.alloc _).trans' HF16.out) HO16.out (fun k hk => by
              rcases HV16.out k hk with h | h
              · exact .inl h
              · right; simp at h; omega)
    · have e : m = 2 := by omega
      subst e
      have hfr : Frm noB w wr := HF0.out.trans' HI.out.ent.old
      have hrx := HX.out.frm' hfr
      have hry := HY.out.frm' hfr
      have HRX := Lib.hid hrx
      have HRY := Lib.hid hry
      have HFR := Lib.hid hfr
      have hvl : vs.length ≤ 8 := by have := HI.out.len; omega
      clear hfr hrx hry
      go_wp2_with fail
      refine (kept_q gi A box c _ HI.out.inn HRX.out (by omega)).mono ?_
      rintro e wa ⟨rfl, n1, hwa⟩
      have HA1 : Hid (Frm noB wr wa) := Lib.hid (by rw [hwa]; exact Frm.of_drewN _ _ _)
      clear hwa
      try dsimp only
      go_wp2_with fail
      refine (kept_q ga B reply d _ (HI.out.out.frm' HA1.out) (HRY.out.frm' HA1.out) (by omega)).mono ?_
      rintro e wb ⟨rfl, n2, hwb⟩
      have HA2 : Hid (Frm noB wr wb) := Lib.hid (by rw [hwb]; exact HA1.out.drewN _)
      clear hwb
      try dsimp only
      go_wp2_with fail
      refine (apart_any Ag vs ns cv _ ((Rd.of_own HI.out.row).frm' HA2.out) (fun k hk ⟨i, hi, hv⟩ => ?_) (HI.out.bag.frm HA2.out fun _ _ h => h) (by omega) HI.out.ns_).mono ?_
      · obtain ⟨xs, ho, _⟩ := HI.out.bag.each i hi (by have := HI.out.bag.len; omega)
        refine own_own_ne ho HI.out.row (by decide) hv ?_
        obtain ⟨a, rfl, rfl⟩ := hk
        rfl
      rintro e wc ⟨rfl, hfc⟩
      have HA3 := Lib.hid ((HA2.out.any (S := inV vs)).trans' hfc)
      have hfw : Frm noB w wc := (HFR.out.trans' HA2.out).old (F := inV vs) hfc fun k hk => Nat.le_trans HF0.out.size (HI.out.ge k (.inl hk))
      have HFW := Lib.hid hfw
      clear hfc hfw
      try dsimp only
      go_wp2_with fail
      refine (kept_q gi A box c _ (HI.out.inn.frm HA3.out HI.out.ni) (HX.out.frm' HFW.out) (by omega)).mono ?_
      rintro e wd ⟨rfl, n3, hwd⟩
      have HA4 : Hid (Frm noB wc wd) := Lib.hid (by rw [hwd]; exact Frm.of_drewN _ _ _)
      clear hwd
      try dsimp only
      go_wp2_with fail
      refine (kept_q ga B reply d _ ((HI.out.out.frm HA3.out HI.out.na).frm' HA4.out) ((HY.out.frm' HFW.out).frm' HA4.out) (by omega)).mono ?_
      rintro e we ⟨rfl, n4, hwe⟩
      have HA5 : Hid (Frm noB wc we) := Lib.hid (by rw [hwe]; exact HA4.out.drewN _)
      clear hwe
      try dsimp only
      go_wp2_with fail
      go_ret
      exact ⟨rfl, HFW.out.trans' HA5.out⟩
end Go.Proofs.Ytjnoddbhfcpniaa
