/-
  EntryPlays: the law's submit.
-/
import Derived.Test.YtjnoddbhfcpniaaPairs
import Derived.Test.YtjnoddbhfcpniaaSparePut
namespace Go.Proofs.Ytjnoddbhfcpniaa
open Go.RowKit
open Go.BigFrame
set_option linter.unusedVariables false
set_option linter.unusedSimpArgs false

/-- a block of bytes -/
def BlkU (w : World) (g sz : Nat) : Prop := ∃ cs, Blk w g 5 cs ∧ cs.size = sz ∧ ∀ j, j < sz → ∃ n : Int, cs[j]? = some (.int .u8 n)
theorem BlkU.at_ {w : World} {g sz j : Nat} (h : BlkU w g sz) (hj : j < sz) : ∃ n : Int, w.cell? ⟨g, j, none⟩ = some (.int .u8 n) ∧ w.frozen? ⟨g, j, none⟩ = false := by
  obtain ⟨cs, h1, h2, h3⟩ := h
  obtain ⟨n, hn⟩ := h3 j hj
  exact ⟨n, by rw [h1.cell j, hn], h1.frozen j⟩
theorem BlkU.put {w : World} {g sz j : Nat} (h : BlkU w g sz) (n : Int) : BlkU (w.setCell ⟨g, j, none⟩ (.int .u8 n)) g sz := by
  obtain ⟨cs, h1, h2, h3⟩ := h
  refine ⟨_, h1.set_ j _, by simpa using h2, fun q hq => ?_⟩
  rw [Array.getElem?_setIfInBounds]
  by_cases e : j = q
  · subst e
    rw [if_pos rfl, if_pos (by omega)]
    exact ⟨n, rfl⟩
  · rw [if_neg e]; exact h3 q hq
theorem BlkU.frm {S : Nat → Prop} {w w' : World} {g sz : Nat} (h : BlkU w g sz) (hf : Frm S w w') (hS : ¬ S g) : BlkU w' g sz := by
  obtain ⟨cs, h1, h2⟩ := h
  exact ⟨cs, h1.frm hf hS, h2⟩
theorem Spared.u {w : World} {g : Nat} {xs : List UInt8} (h : Spared w g xs) : BlkU w g (xs.length + 80) := by
  obtain ⟨cs, h1, h2, h3, h4⟩ := h
  refine ⟨cs, h1, h2, fun j hj => ?_⟩
  by_cases q : j < xs.length
  · exact ⟨_, h3 j q⟩
  · exact ⟨_, h4 j (by omega) hj⟩
theorem StepTo.of {w wx wy : World} {I : Ids} {F G P Q : Nat → Prop} {s : ES} {t : RS} {m : Int} {B g : Nat} (h : PrM wx I F G Q s t m m) (hr : Rel s t) (hb : RB t B) (hf : Frm P w wx) (hQ : ∀ k, Q k → More P w wx k) (hfy : Frm (isB g) wx wy) (hg : w.heap.size ≤ g) (hgQ : ¬ Q g) (hP : ∀ k, P k → k < w.heap.size) : StepTo w I P B wy := by
  have h1 := h.frm hfy fun k hk e => hgQ ((show k = g from e) ▸ hk)
  have sz := hf.size
  have sy := hfy.size
  refine ⟨F, G, s, t, m, h1.more (fun k hk => More.up sy k (hQ k hk)) (fun k hk => ?_), hr, hb, hf.trans hfy fun k hk e => by have : k = g := e; omega⟩
  rcases hk with hk | hk
  · have := hP k hk; omega
  · exact hk.2
section
variable {w : World} {I : Ids} {F G P : Nat → Prop} {s : ES} {t : RS} {m : Int} {B : Nat}
theorem RB.sub {t : RS} {B : Nat} (h : RB t B) (c : Int) (l : List UInt8) (hl : l.length ≤ B) : RB (if rsubErr t c l = 0 then rtaken t c l else t) B := by
  split
  · rename_i e; exact h.taken e hl
  · exact h
theorem Rel.subTo {s : ES} {t : RS} (h : Rel s t) (c : Int) (l : List UInt8) : Rel (subTo s c l) (if rsubErr t c l = 0 then rtaken t c l else t) := by
  unfold Go.Proofs.Ytjnoddbhfcpniaa.subTo
  rw [h.sub c l]
  by_cases e : rsubErr t c l = 0
  · rw [if_pos e, if_pos e]; exact h.taken e
  · rw [if_neg e, if_neg e]; exact h
set_option maxRecDepth 100000 in
set_option maxHeartbeats 400000 in
theorem submit_any (h : PrM w I F G P s t m m) (hr : Rel s t) (hb : RB t B) (hBB : B ≤ 1048576) (dv kind round at_ client : Int) (A Ar : Option Addr) (data : List UInt8) (c rn cr : Nat) (hD : Rd w A (data.map bv)) (hA : data ≠ [] → ∀ k, aB A k → ¬ P k) (hL : data.length ≤ B) :
    Calls Try.prog 36 #[.pointer (some ⟨I.bb, 0, none⟩), .agg #[.int .i64 dv, .int .i64 kind, .int .u64 round, .int .i64 at_, .int .i64 client, .slice A data.length c, .slice Ar rn cr]] w fun e w' => e = .returned (.bool true) ∧ StepTo w I P B w' := by
  have f1 : Frm noB w (w.alloc (.cells #[.int .i64 dv, .int .i64 kind, .int .u64 round, .int .i64 at_, .int .i64 client, .slice A data.length c, .slice Ar rn cr] 68)) := (Frm.refl _ _).alloc _
  have b1 : Blk (w.alloc (.cells #[.int .i64 dv, .int .i64 kind, .int .u64 round, .int .i64 at_, .int .i64 client, .slice A data.length c, .slice Ar rn cr] 68)) w.heap.size 68 #[.int .i64 dv, .int .i64 kind, .int .u64 round, .int .i64 at_, .int .i64 client, .slice A data.length c, .slice Ar rn cr] := Blk.new _ _ _
  have H1 := Lib.hid (h.frm' f1)
  have D1 := Lib.hid (hD.frm' f1)
  have hsz1 : w.heap.size < (w.alloc (.cells #[.int .i64 dv, .int .i64 kind, .int .u64 round, .int .i64 at_, .int .i64 client, .slice A data.length c, .slice Ar rn cr] 68)).heap.size := b1.lt
  have B1 := Lib.hid b1
  have F1 := Lib.hid f1
  have PL := Lib.hid h.pl
  have HR := Lib.hid hr
  have HB := Lib.hid hb
  have HAP := Lib.hid hA
  clear h hD f1 b1 hr hb hA
  go_enter Try.func36, Try.ntmps36
  go_upto_region 1 with fail
  generalize w.alloc (.cells #[.int .i64 dv, .int .i64 kind, .int .u64 round, .int .i64 at_, .int .i64 client, .slice A data.length c, .slice Ar rn cr] 68) = w1 at *
  have c5 := B1.out.cell 5
  simp at c5
  go_wp2_with fail
  refine (spare_any A data c w1 D1.out (by omega)).mono ?_
  rintro _ w2 ⟨g, rfl, hg, hS, f2⟩
  have F2 := Lib.hid f2
  have H2 := Lib.hid (H1.out.frm' f2)
  have D2 := Lib.hid (D1.out.frm' f2)
  have B2 := Lib.hid (B1.out.frm' f2)
  have S2 := Lib.hid hS
  have hg2 : g < w2.heap.size := hS.lt
  clear hS f2 H1 D1 B1 c5
  try dsimp only
  go_upto_region 2 with fail
  have a0 := H2.out.both.cell 0
  have a1 := H2.out.both.cell 1
  have d4 := B2.out.cell 4
  have d5 := B2.out.cell 5
  simp at a0 a1 d4 d5
  have s1 : w2.drew.cell? ⟨I.bb, 0, none⟩ = some (.pointer (some ⟨I.eb, 0, none⟩)) ∧ w2.drew.cell? ⟨I.bb, 1, none⟩ = some (.pointer (some ⟨I.rb, 0, none⟩)) ∧ w2.drew.cell? ⟨w.heap.size, 4, none⟩ = some (.int .i64 client) ∧ w2.drew.cell? ⟨w.heap.size, 5, none⟩ = some (.slice A data.length c) := ⟨a0, a1, d4, d5⟩
  have F3 := Lib.hid ((F2.out).drew)
  have H3 := Lib.hid (H2.out.frm' (Frm.refl noB w2).drew)
  have D3 := Lib.hid (D2.out.drew)
  have B3 := Lib.hid (B2.out.drew)
  have S3 : Hid (Spared w2.drew g data) := Lib.hid (S2.out.frm' (Frm.refl noB w2).drew)
  have hg3 : g < w2.drew.heap.size := hg2
  refine wp_region_held_drew (S := fun W => W.cell? ⟨I.bb, 0, none⟩ = some (.pointer (some ⟨I.eb, 0, none⟩)) ∧ W.cell? ⟨I.bb, 1, none⟩ = some (.pointer (some ⟨I.rb, 0, none⟩)) ∧ W.cell? ⟨w.heap.size, 4, none⟩ = some (.int .i64 client) ∧ W.cell? ⟨w.heap.size, 5, none⟩ = some (.slice A data.length c)) (by kernel_rfl) s1 (fun hHeld => ?_)
  clear a0 a1 d4 d5 H2 D2 B2 S2 hg2 hHeld F2
  generalize w2.drew = w3 at *
  refine takeC (i := 0) (.pointer (some ⟨I.bb, 0, none⟩)) rfl (by kernel_rfl) (by kernel_rfl) (by kernel_rfl) (fun _ _ _ h => h) (Or.inl ⟨by rfl, fun w hw => by go_simp⟩) s1 ?_
  try simp only [Act.put, List.setIfInBounds_toArray, List.set_cons_zero, List.set_cons_succ]
  refine takeC (i := 1) (.pointer (some ⟨I.bb, 0, none⟩)) rfl (by kernel_rfl) (by kernel_rfl) (by kernel_rfl) (fun _ _ _ h => h) (Or.inl ⟨by rfl, fun w hw => by go_simp⟩) s1 ?_
  try simp only [Act.put, List.setIfInBounds_toArray, List.set_cons_zero, List.set_cons_succ]
  refine takeC (i := 2) (.pointer (some ⟨I.bb, 0, none⟩)) rfl (by kernel_rfl) (by kernel_rfl) (by kernel_rfl) (fun _ _ _ h => h) (Or.inl ⟨by rfl, fun w hw => by go_simp⟩) s1 ?_
  try simp only [Act.put, List.setIfInBounds_toArray, List.set_cons_zero, List.set_cons_succ]
  refine takeC (i := 3) (.pointer (some ⟨I.eb, 0, none⟩)) rfl (by kernel_rfl) (by kernel_rfl) (by kernel_rfl) (fun _ _ _ h => h) (Or.inl ⟨by rfl, fun w hw => by go_simp⟩) s1 ?_
  try simp only [Act.put, List.setIfInBounds_toArray, List.set_cons_zero, List.set_cons_succ]
  refine takeC (i := 4) (.pointer (some ⟨w.heap.size, 4, none⟩)) rfl (by kernel_rfl) (by kernel_rfl) (by kernel_rfl) (fun _ _ _ h => h) (Or.inl ⟨by rfl, fun w hw => by go_simp⟩) s1 ?_
  try simp only [Act.put, List.setIfInBounds_toArray, List.set_cons_zero, List.set_cons_succ]
  refine takeC (i := 5) (.int .i64 client) rfl (by kernel_rfl) (by kernel_rfl) (by kernel_rfl) (fun _ _ _ h => h) (Or.inl ⟨by rfl, fun w hw => by go_simp⟩) s1 ?_
  try simp only [Act.put, List.setIfInBounds_toArray, List.set_cons_zero, List.set_cons_succ]
  refine takeC (i := 6) (.slice (some ⟨g, 0, none⟩) data.length (data.length + 80)) rfl (by kernel_rfl) (by kernel_rfl) (by kernel_rfl) (fun _ _ _ h => h) (Or.inl ⟨by rfl, fun w hw => by go_simp⟩) s1 ?_
  try simp only [Act.put, List.setIfInBounds_toArray, List.set_cons_zero, List.set_cons_succ]
  refine takeC (i := 8) (.pointer (some ⟨I.bb, 0, none⟩)) rfl (by kernel_rfl) (by kernel_rfl) (by kernel_rfl) (fun _ _ _ h => h) (Or.inl ⟨by rfl, fun w hw => by go_simp⟩) s1 ?_
  try simp only [Act.put, List.setIfInBounds_toArray, List.set_cons_zero, List.set_cons_succ]
  refine takeC (i := 9) (.pointer (some ⟨I.bb, 0, none⟩)) rfl (by kernel_rfl) (by kernel_rfl) (by kernel_rfl) (fun _ _ _ h => h) (Or.inl ⟨by rfl, fun w hw => by go_simp⟩) s1 ?_
  try simp only [Act.put, List.setIfInBounds_toArray, List.set_cons_zero, List.set_cons_succ]
  refine takeC (i := 10) (.pointer (some ⟨I.bb, 1, none⟩)) rfl (by kernel_rfl) (by kernel_rfl) (by kernel_rfl) (fun _ _ _ h => h) (Or.inl ⟨by rfl, fun w hw => by go_simp⟩) s1 ?_
  try simp only [Act.put, List.setIfInBounds_toArray, List.set_cons_zero, List.set_cons_succ]
  refine takeC (i := 11) (.pointer (some ⟨I.rb, 0, none⟩)) rfl (by kernel_rfl) (by kernel_rfl) (by kernel_rfl) (fun _ _ _ h => h) (Or.inl ⟨by rfl, fun w hw => by go_simp⟩) s1 ?_
  try simp only [Act.put, List.setIfInBounds_toArray, List.set_cons_zero, List.set_cons_succ]
  refine takeC (i := 12) (.pointer (some ⟨w.heap.size, 4, none⟩)) rfl (by kernel_rfl) (by kernel_rfl) (by kernel_rfl) (fun _ _ _ h => h) (Or.inl ⟨by rfl, fun w hw => by go_simp⟩) s1 ?_
  try simp only [Act.put, List.setIfInBounds_toArray, List.set_cons_zero, List.set_cons_succ]
  refine takeC (i := 13) (.int .i64 client) rfl (by kernel_rfl) (by kernel_rfl) (by kernel_rfl) (fun _ _ _ h => h) (Or.inl ⟨by rfl, fun w hw => by go_simp⟩) s1 ?_
  try simp only [Act.put, List.setIfInBounds_toArray, List.set_cons_zero, List.set_cons_succ]
  refine takeC (i := 14) (.pointer (some ⟨w.heap.size, 5, none⟩)) rfl (by kernel_rfl) (by kernel_rfl) (by kernel_rfl) (fun _ _ _ h => h) (Or.inl ⟨by rfl, fun w hw => by go_simp⟩) s1 ?_
  try simp only [Act.put, List.setIfInBounds_toArray, List.set_cons_zero, List.set_cons_succ]
  refine takeC (i := 15) (.slice A data.length c) rfl (by kernel_rfl) (by kernel_rfl) (by kernel_rfl) (fun _ _ _ h => h) (Or.inl ⟨by rfl, fun w hw => by go_simp⟩) s1 ?_
  try simp only [Act.put, List.setIfInBounds_toArray, List.set_cons_zero, List.set_cons_succ]
  refine consC (i := 7) rfl (by kernel_rfl) (fun K hK => ?_)
  go_simp
  have hgP : ¬ P g := fun h => by have := PL.out g h; omega
  have hwP : ¬ P w.heap.size := fun h => by have := PL.out _ h; omega
  have gF : ∀ k, aB (some ⟨g, 0, none⟩) k → ¬ F k := fun k ⟨a, ha, hk⟩ hF => by
    injection ha with ha
    subst ha
    exact hgP (H3.out.p _ (.inl (by rw [show g = k from hk]; exact hF)))
  refine (sub_c H3.out.ent client (some ⟨g, 0, none⟩) data (data.length + 80) S3.out.rd gF (by unfold Len; omega)).mono ?_
  rintro _ w4 ⟨rfl, F', hE4, f4, g4⟩
  rw [HR.out.sub]
  have ws := f4.size
  have M4 := Lib.hid (H3.out.entry hE4 f4 g4)
  have s4 : w4.cell? ⟨I.bb, 0, none⟩ = some (.pointer (some ⟨I.eb, 0, none⟩)) ∧ w4.cell? ⟨I.bb, 1, none⟩ = some (.pointer (some ⟨I.rb, 0, none⟩)) ∧ w4.cell? ⟨w.heap.size, 4, none⟩ = some (.int .i64 client) ∧ w4.cell? ⟨w.heap.size, 5, none⟩ = some (.slice A data.length c) :=
    ⟨f4.cell_some s1.1 fun h => (H3.out.fs _ (.inl h)).1 rfl, f4.cell_some s1.2.1 fun h => (H3.out.fs _ (.inl h)).1 rfl, f4.cell_some s1.2.2.1 fun h => hwP (H3.out.p _ (.inl h)), f4.cell_some s1.2.2.2 fun h => hwP (H3.out.p _ (.inl h))⟩
  have S4 := Lib.hid (S3.out.frm f4 fun h => hgP (H3.out.p _ (.inl h)))
  have D4 := Lib.hid (D3.out.frmN f4 fun hne k hk h => HAP.out (fun e => hne (by rw [e]; rfl)) k hk (H3.out.p _ (.inl h)))
  have F4 := Lib.hid (F1.out.any.trans' (F3.out.any.trans' (f4.mono fun k _ h => H3.out.p k (.inl h))))
  try dsimp only
  refine hK.out _ _ s4 (fun hHeld => ?_)
  clear hK K
  try simp only [Act.put, List.setIfInBounds_toArray, List.set_cons_zero, List.set_cons_succ]
  refine consC (i := 16) rfl (by kernel_rfl) (fun K hK => ?_)
  go_simp
  refine (rsub_c M4.out.ref HB.out client A data c D4.out (by unfold Len; omega)).mono ?_
  rintro _ w5 ⟨rfl, G', hE5, f5, g5⟩
  have M5 := Lib.hid (M4.out.refe hE5 (by split <;> exact ⟨rfl, rfl⟩) f5 g5)
  have gP : ∀ k, G k → P k := fun k h => H3.out.p k (.inr (.inl h))
  have s5 : w5.cell? ⟨I.bb, 0, none⟩ = some (.pointer (some ⟨I.eb, 0, none⟩)) ∧ w5.cell? ⟨I.bb, 1, none⟩ = some (.pointer (some ⟨I.rb, 0, none⟩)) ∧ w5.cell? ⟨w.heap.size, 4, none⟩ = some (.int .i64 client) ∧ w5.cell? ⟨w.heap.size, 5, none⟩ = some (.slice A data.length c) :=
    ⟨f5.cell_some s4.1 fun h => (H3.out.fs _ (.inr h)).1 rfl, f5.cell_some s4.2.1 fun h => (H3.out.fs _ (.inr h)).1 rfl, f5.cell_some s4.2.2.1 fun h => hwP (gP _ h), f5.cell_some s4.2.2.2 fun h => hwP (gP _ h)⟩
  have S5 := Lib.hid (S4.out.frm f5 fun h => hgP (gP _ h))
  have D5 := Lib.hid (D4.out.frmN f5 fun hne k hk h => HAP.out (fun e => hne (by rw [e]; rfl)) k hk (gP _ h))
  have F5 := Lib.hid (F4.out.trans' (f5.mono fun k _ h => gP k h))
  have ws5 := f5.size
  have R5 := Lib.hid (HR.out.subTo client data)
  have RB5 := Lib.hid (HB.out.sub client data hL)
  have hgQ : Hid (¬ More (More P w3 w4) w4 w5 g) := Lib.hid fun h => by
    rcases h with (h | h) | h
    · exact hgP h
    · omega
    · omega
  have sz3 := F3.out.size
  have hQ5 : Hid (∀ k, More (More P w3 w4) w4 w5 k → More P w w5 k) := Lib.hid fun k h => by
    rcases h with (h | h) | h
    · exact .inl h
    · exact .inr ⟨by omega, by omega⟩
    · exact .inr ⟨by omega, h.2⟩
  generalize rsubErr t client data = er at *
  clear s1 s4 f4 g4 f5 g5 hE4 hE5 S3 S4 D3 D4 H3 B3 M4 gF hHeld
  try dsimp only
  refine hK.out _ _ s5 (fun hHeld => ?_)
  clear hK K
  try simp only [Act.put, List.setIfInBounds_toArray, List.set_cons_zero, List.set_cons_succ]
  refine takeC (i := 17) (.bool false) rfl (by kernel_rfl) (by kernel_rfl) (by kernel_rfl) (fun _ _ _ h => h) (Or.inl ⟨by rfl, fun w hw => by go_simp⟩) s5 ?_
  try simp only [Act.put, List.setIfInBounds_toArray, List.set_cons_zero, List.set_cons_succ]
  refine takeC (i := 18) (.bool false) rfl (by kernel_rfl) (by kernel_rfl) (by kernel_rfl) (fun _ _ _ h => h) (Or.inl ⟨by rfl, fun w hw => by go_simp⟩) s5 ?_
  try simp only [Act.put, List.setIfInBounds_toArray, List.set_cons_zero, List.set_cons_succ]
  refine takeC (i := 19) (.slice (some ⟨g, 0, none⟩) data.length (data.length + 80)) rfl (by kernel_rfl) (by kernel_rfl) (by kernel_rfl) (fun _ _ _ h => h) (Or.inl ⟨by rfl, fun w hw => by go_simp⟩) s5 ?_
  try simp only [Act.put, List.setIfInBounds_toArray, List.set_cons_zero, List.set_cons_succ]
  refine takeC (i := 20) (.pointer (some ⟨w.heap.size, 5, none⟩)) rfl (by kernel_rfl) (by kernel_rfl) (by kernel_rfl) (fun _ _ _ h => h) (Or.inl ⟨by rfl, fun w hw => by go_simp⟩) s5 ?_
  try simp only [Act.put, List.setIfInBounds_toArray, List.set_cons_zero, List.set_cons_succ]
  refine takeC (i := 21) (.slice A data.length c) rfl (by kernel_rfl) (by kernel_rfl) (by kernel_rfl) (fun _ _ _ h => h) (Or.inl ⟨by rfl, fun w hw => by go_simp⟩) s5 ?_
  try simp only [Act.put, List.setIfInBounds_toArray, List.set_cons_zero, List.set_cons_succ]
  refine consC (i := 22) rfl (by kernel_rfl) (fun K hK => ?_)
  go_simp
  refine (kept_q g A data c w5 S5.out D5.out (by omega)).mono ?_
  rintro _ w6 ⟨rfl, n6, rfl⟩
  have s6 : (w5.drewN n6).cell? ⟨I.bb, 0, none⟩ = some (.pointer (some ⟨I.eb, 0, none⟩)) ∧ (w5.drewN n6).cell? ⟨I.bb, 1, none⟩ = some (.pointer (some ⟨I.rb, 0, none⟩)) ∧ (w5.drewN n6).cell? ⟨w.heap.size, 4, none⟩ = some (.int .i64 client) ∧ (w5.drewN n6).cell? ⟨w.heap.size, 5, none⟩ = some (.slice A data.length c) := s5
  try dsimp only
  refine hK.out _ _ s6 (fun hHeld => ?_)
  clear hK K
  try simp only [Act.put, List.setIfInBounds_toArray, List.set_cons_zero, List.set_cons_succ]
  refine takeC (i := 23) (.bool false) rfl (by kernel_rfl) (by kernel_rfl) (by kernel_rfl) (fun _ _ _ h => h) (Or.inl ⟨by rfl, fun w hw => by go_simp⟩) s6 ?_
  try simp only [Act.put, List.setIfInBounds_toArray, List.set_cons_zero, List.set_cons_succ]
  refine takeC (i := 24) (.bool false) rfl (by kernel_rfl) (by kernel_rfl) (by kernel_rfl) (fun _ _ _ h => h) (Or.inl ⟨by rfl, fun w hw => by go_simp⟩) s6 ?_
  try simp only [Act.put, List.setIfInBounds_toArray, List.set_cons_zero, List.set_cons_succ]
  refine wpAnyH_done (by kernel_rfl) ?_ _
  have U6 : Hid (BlkU (w5.drewN n6) g (data.length + 80)) := Lib.hid (S5.out.u.frm (Frm.of_drewN noB w5 n6) fun h => h)
  have F6 : Hid (Frm (isB g) w5 (w5.drewN n6)) := Lib.hid (Frm.of_drewN _ _ _)
  clear s5 s6 S5 D5 hHeld
  generalize w5.drewN n6 = w6 at *
  go_wp2_with fail
  go_loopw [6] (fun i wr => ∃ k : Nat, k ≤ data.length ∧ i = .int .i64 k ∧ BlkU wr g (data.length + 80) ∧ Frm (isB g) w5 wr) (fun i _ => data.length - (intOf i).toNat)
  case atStart => exact ⟨0, Nat.zero_le _, rfl, U6.out, F6.out⟩
  case round =>
    obtain ⟨k, hk, rfl, hu, hf⟩ := hrel
    by_cases hkl : k < data.length
    · obtain ⟨n, d1, d2⟩ := hu.at_ (j := k) (by omega)
      have HU := Lib.hid hu
      have HF := Lib.hid hf
      clear hu hf
      go_wp2_with fail
      go_roundw
      case rel => exact ⟨k + 1, by omega, by go_num, HU.out.put _, HF.out.setCell (a := ⟨g, k, none⟩) (.inl (show isB g g from rfl)) _⟩
      case measure => simp [intOf]; omega
    · have e : k = data.length := by omega
      subst e
      have HF := Lib.hid hf
      clear hu hf
      go_wp2_with fail
      go_ret
      exact ⟨rfl, StepTo.of M5.out R5.out RB5.out F5.out hQ5.out HF.out (by omega) hgQ.out PL.out⟩
end
end Go.Proofs.Ytjnoddbhfcpniaa
