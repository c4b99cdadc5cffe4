/-
  EntryPlays: the law's answer.
-/
import Derived.Test.YtjnoddbhfcpniaaSubm
import Derived.Test.YtjnoddbhfcpniaaSpareRows
namespace Go.Proofs.Ytjnoddbhfcpniaa
open Go.RowKit
open Go.BigFrame
set_option linter.unusedVariables false
set_option linter.unusedSimpArgs false

theorem StepTo.ofS {w wx wy : World} {I : Ids} {F G P Q S : Nat → Prop} {s : ES} {t : RS} {m : Int} {B : Nat} (h : PrM wx I F G Q s t m m) (hr : Rel s t) (hb : RB t B) (hf : Frm P w wx) (hQ : ∀ k, Q k → More P w wx k) (hfy : Frm S wx wy) (hS : ∀ k, S k → w.heap.size ≤ k ∧ ¬ Q k) (hP : ∀ k, P k → k < w.heap.size) : StepTo w I P B wy := by
  have h1 := h.frm hfy fun k hk e => (hS k e).2 hk
  have sz := hf.size
  have sy := hfy.size
  refine ⟨F, G, s, t, m, h1.more (fun k hk => More.up sy k (hQ k hk)) (fun k hk => ?_), hr, hb, hf.trans hfy fun k hk e => by have := (hS k e).1; omega⟩
  rcases hk with hk | hk
  · have := hP k hk; omega
  · exact hk.2
/-- the replies handed in, when i are written over -/
structure AnI (w5 wr : World) (g : Nat) (gs : Nat → Nat) (xss : List (List UInt8)) (lo hi i : Nat) : Prop where
  fr : Frm (fun q => lo ≤ q ∧ q < hi) w5 wr
  blk : ∃ cs, Blk wr g 35 cs ∧ ∀ j (h : j < xss.length), cs[j]? = some (if j < i then .slice none 0 0 else .slice (some ⟨gs j, 0, none⟩) xss[j].length (xss[j].length + 80))
  row : ∀ j (h : j < xss.length), BlkU wr (gs j) (xss[j].length + 80)
  ne : ∀ i j, i < xss.length → j < xss.length → gs i = gs j → i = j
  lg : lo ≤ g ∧ g < hi
  ls : ∀ j, j < xss.length → lo ≤ gs j ∧ gs j < hi
section
variable {w5 wr : World} {g lo hi i : Nat} {gs : Nat → Nat} {xss : List (List UInt8)}
theorem AnI.tn (h : AnI w5 wr g gs xss lo hi i) {j : Nat} (hj : j < xss.length) : gs j ≠ g := by
  obtain ⟨cs, h1, _⟩ := h.blk
  obtain ⟨cs', h2, _⟩ := h.row j hj
  exact h2.ne_ h1 (by decide)
theorem AnI.cell (h : AnI w5 wr g gs xss lo hi i) (hj : i < xss.length) : wr.cell? ⟨g, i, none⟩ = some (.slice (some ⟨gs i, 0, none⟩) xss[i].length (xss[i].length + 80)) ∧ wr.frozen? ⟨g, i, none⟩ = false := by
  obtain ⟨cs, h1, h2⟩ := h.blk
  exact ⟨by rw [h1.cell i, h2 i hj, if_neg (by omega)], h1.frozen i⟩
theorem AnI.byte (h : AnI w5 wr g gs xss lo hi i) (hj : i < xss.length) (k : Nat) (n : Int) : AnI w5 (wr.setCell ⟨gs i, k, none⟩ (.int .u8 n)) g gs xss lo hi i := by
  have f : Frm (isB (gs i)) wr (wr.setCell ⟨gs i, k, none⟩ (.int .u8 n)) := (Frm.refl _ wr).setCell (a := ⟨gs i, k, none⟩) (.inl (show isB (gs i) (gs i) from rfl)) _
  refine ⟨h.fr.setCell (a := ⟨gs i, k, none⟩) (.inl (h.ls i hj)) _, ?_, fun j hjl => ?_, h.ne, h.lg, h.ls⟩
  · obtain ⟨cs, h1, h2⟩ := h.blk
    exact ⟨cs, h1.frm f fun e => h.tn hj (show g = gs i from e).symm, h2⟩
  · by_cases e : j = i
    · subst e; exact (h.row j hjl).put n
    · exact (h.row j hjl).frm f fun e' => e (h.ne j i hjl hj e')
theorem AnI.nil_ (h : AnI w5 wr g gs xss lo hi i) (hj : i < xss.length) : AnI w5 (wr.setCell ⟨g, i, none⟩ (.slice none 0 0)) g gs xss lo hi (i + 1) := by
  have f : Frm (isB g) wr (wr.setCell ⟨g, i, none⟩ (.slice none 0 0)) := (Frm.refl _ wr).setCell (a := ⟨g, i, none⟩) (.inl (show isB g g from rfl)) _
  refine ⟨h.fr.setCell (a := ⟨g, i, none⟩) (.inl h.lg) _, ?_, fun j hjl => (h.row j hjl).frm f (h.tn hjl), h.ne, h.lg, h.ls⟩
  obtain ⟨cs, h1, h2⟩ := h.blk
  refine ⟨_, h1.set_ i _, fun j hjl => ?_⟩
  rw [Array.getElem?_setIfInBounds]
  by_cases e : i = j
  · subst e
    have hsz : i < cs.size := (Array.getElem?_eq_some_iff.1 (h2 i hj)).1
    rw [if_pos rfl, if_pos hsz, if_pos (by omega)]
  · rw [if_neg e, h2 j hjl]
    by_cases q : j < i
    · rw [if_pos q, if_pos (by omega)]
    · rw [if_neg q, if_neg (by omega)]
end
section
variable {w : World} {I : Ids} {F G P : Nat → Prop} {s : ES} {t : RS} {m : Int} {B : Nat}
theorem RB.ans {t : RS} {B : Nat} (h : RB t B) (reps : List (List UInt8)) (hl : ∀ l ∈ reps, l.length ≤ B) : RB (if ransErr t reps.length = 0 then ranswered t reps else t) B := by
  split
  · rename_i e; exact h.answered e hl
  · exact h
theorem Rel.ansTo {s : ES} {t : RS} (h : Rel s t) (reps : List (List UInt8)) : Rel (if ansErr s reps.length = 0 then Go.Proofs.Ytjnoddbhfcpniaa.answered s reps else s) (if ransErr t reps.length = 0 then ranswered t reps else t) := by
  rw [h.ans]
  by_cases e : ransErr t reps.length = 0
  · rw [if_pos e, if_pos e]; exact h.answered e
  · rw [if_neg e, if_neg e]; exact h
set_option maxRecDepth 100000 in
set_option maxHeartbeats 400000 in
theorem answer_any (h : PrM w I F G P s t m m) (hr : Rel s t) (hb : RB t B) (hBB : B ≤ 1048576) (dv kind round at_ client : Int) (A Ar : Option Addr) (dn : Nat) (rows : List (List UInt8)) (c cr : Nat) (hD : RdRows w Ar rows (fun k => ¬ P k)) (hL : ∀ l ∈ rows, l.length ≤ B) (hN : rows.length ≤ B) :
    Calls Try.prog 40 #[.pointer (some ⟨I.bb, 0, none⟩), .agg #[.int .i64 dv, .int .i64 kind, .int .u64 round, .int .i64 at_, .int .i64 client, .slice A dn c, .slice Ar rows.length cr]] w fun e w' => e = .returned (.bool true) ∧ StepTo w I P B w' := by
  have f1 : Frm noB w (w.alloc (.cells #[.int .i64 dv, .int .i64 kind, .int .u64 round, .int .i64 at_, .int .i64 client, .slice A dn c, .slice Ar rows.length cr] 68)) := (Frm.refl _ _).alloc _
  have b1 : Blk (w.alloc (.cells #[.int .i64 dv, .int .i64 kind, .int .u64 round, .int .i64 at_, .int .i64 client, .slice A dn c, .slice Ar rows.length cr] 68)) w.heap.size 68 #[.int .i64 dv, .int .i64 kind, .int .u64 round, .int .i64 at_, .int .i64 client, .slice A dn c, .slice Ar rows.length cr] := Blk.new _ _ _
  have H1 := Lib.hid (h.frm' f1)
  have D1 := Lib.hid (hD.frm' f1)
  have hsz1 : w.heap.size < (w.alloc (.cells #[.int .i64 dv, .int .i64 kind, .int .u64 round, .int .i64 at_, .int .i64 client, .slice A dn c, .slice Ar rows.length cr] 68)).heap.size := b1.lt
  have B1 := Lib.hid b1
  have F1 := Lib.hid f1
  have PL := Lib.hid h.pl
  have HR := Lib.hid hr
  have HB := Lib.hid hb
  have HL4 : Hid (∀ l ∈ rows, l.length ≤ 4000000) := Lib.hid fun l hl => by have := hL l hl; omega
  have HLN : Hid (∀ l ∈ rows, Len l.length) := Lib.hid fun l hl => by have := hL l hl; unfold Len; omega
  have RB5 := Lib.hid (hb.ans rows hL)
  have R5 := Lib.hid (hr.ansTo rows)
  clear h hD f1 b1 hr hb hL
  go_enter Try.func40, Try.ntmps40
  go_upto_region 1 with fail
  generalize w.alloc (.cells #[.int .i64 dv, .int .i64 kind, .int .u64 round, .int .i64 at_, .int .i64 client, .slice A dn c, .slice Ar rows.length cr] 68) = w1 at *
  have c6 := B1.out.cell 6
  simp at c6
  go_wp2_with fail
  refine (spareRows_any Ar rows cr w1 D1.out (by omega) HL4.out).mono ?_
  rintro _ w2 ⟨g, gs, rfl, hS, f2⟩
  have F2 := Lib.hid f2
  have H2 := Lib.hid (H1.out.frm' f2)
  have D2 := Lib.hid (D1.out.frm' f2)
  have B2 := Lib.hid (B1.out.frm' f2)
  have S2 := Lib.hid hS
  clear hS f2 H1 D1 B1 c6
  try dsimp only
  go_upto_region 2 with fail
  have a0 := H2.out.both.cell 0
  have a1 := H2.out.both.cell 1
  have d6 := B2.out.cell 6
  simp at a0 a1 d6
  have s1 : w2.drew.cell? ⟨I.bb, 0, none⟩ = some (.pointer (some ⟨I.eb, 0, none⟩)) ∧ w2.drew.cell? ⟨I.bb, 1, none⟩ = some (.pointer (some ⟨I.rb, 0, none⟩)) ∧ w2.drew.cell? ⟨w.heap.size, 6, none⟩ = some (.slice Ar rows.length cr) := ⟨a0, a1, d6⟩
  have F3 := Lib.hid ((F2.out).drew)
  have H3 := Lib.hid (H2.out.frm' (Frm.refl noB w2).drew)
  have D3 := Lib.hid (D2.out.frm' (Frm.refl noB w2).drew)
  have S3 := Lib.hid (S2.out.frm' (Frm.refl noB w2).drew)
  refine wp_region_held_drew (S := fun W => W.cell? ⟨I.bb, 0, none⟩ = some (.pointer (some ⟨I.eb, 0, none⟩)) ∧ W.cell? ⟨I.bb, 1, none⟩ = some (.pointer (some ⟨I.rb, 0, none⟩)) ∧ W.cell? ⟨w.heap.size, 6, none⟩ = some (.slice Ar rows.length cr)) (by kernel_rfl) s1 (fun hHeld => ?_)
  clear a0 a1 d6 H2 D2 B2 S2 hHeld F2
  generalize w2.drew = w3 at *
  refine takeC (i := 0) (.pointer (some ⟨I.bb, 0, none⟩)) rfl (by kernel_rfl) (by kernel_rfl) (by kernel_rfl) (fun _ _ _ h => h) (Or.inl ⟨by rfl, fun w hw => by go_simp⟩) s1 ?_
  try simp only [Act.put, List.setIfInBounds_toArray, List.set_cons_zero, List.set_cons_succ]
  refine takeC (i := 1) (.pointer (some ⟨I.bb, 0, none⟩)) rfl (by kernel_rfl) (by kernel_rfl) (by kernel_rfl) (fun _ _ _ h => h) (Or.inl ⟨by rfl, fun w hw => by go_simp⟩) s1 ?_
  try simp only [Act.put, List.setIfInBounds_toArray, List.set_cons_zero, List.set_cons_succ]
  refine takeC (i := 2) (.pointer (some ⟨I.bb, 0, none⟩)) rfl (by kernel_rfl) (by kernel_rfl) (by kernel_rfl) (fun _ _ _ h => h) (Or.inl ⟨by rfl, fun w hw => by go_simp⟩) s1 ?_
  try simp only [Act.put, List.setIfInBounds_toArray, List.set_cons_zero, List.set_cons_succ]
  refine takeC (i := 3) (.pointer (some ⟨I.eb, 0, none⟩)) rfl (by kernel_rfl) (by kernel_rfl) (by kernel_rfl) (fun _ _ _ h => h) (Or.inl ⟨by rfl, fun w hw => by go_simp⟩) s1 ?_
  try simp only [Act.put, List.setIfInBounds_toArray, List.set_cons_zero, List.set_cons_succ]
  refine takeC (i := 4) (.slice (some ⟨g, 0, none⟩) rows.length (rows.length + 3)) rfl (by kernel_rfl) (by kernel_rfl) (by kernel_rfl) (fun _ _ _ h => h) (Or.inl ⟨by rfl, fun w hw => by go_simp⟩) s1 ?_
  try simp only [Act.put, List.setIfInBounds_toArray, List.set_cons_zero, List.set_cons_succ]
  refine takeC (i := 6) (.pointer (some ⟨I.bb, 0, none⟩)) rfl (by kernel_rfl) (by kernel_rfl) (by kernel_rfl) (fun _ _ _ h => h) (Or.inl ⟨by rfl, fun w hw => by go_simp⟩) s1 ?_
  try simp only [Act.put, List.setIfInBounds_toArray, List.set_cons_zero, List.set_cons_succ]
  refine takeC (i := 7) (.pointer (some ⟨I.bb, 0, none⟩)) rfl (by kernel_rfl) (by kernel_rfl) (by kernel_rfl) (fun _ _ _ h => h) (Or.inl ⟨by rfl, fun w hw => by go_simp⟩) s1 ?_
  try simp only [Act.put, List.setIfInBounds_toArray, List.set_cons_zero, List.set_cons_succ]
  refine takeC (i := 8) (.pointer (some ⟨I.bb, 1, none⟩)) rfl (by kernel_rfl) (by kernel_rfl) (by kernel_rfl) (fun _ _ _ h => h) (Or.inl ⟨by rfl, fun w hw => by go_simp⟩) s1 ?_
  try simp only [Act.put, List.setIfInBounds_toArray, List.set_cons_zero, List.set_cons_succ]
  refine takeC (i := 9) (.pointer (some ⟨I.rb, 0, none⟩)) rfl (by kernel_rfl) (by kernel_rfl) (by kernel_rfl) (fun _ _ _ h => h) (Or.inl ⟨by rfl, fun w hw => by go_simp⟩) s1 ?_
  try simp only [Act.put, List.setIfInBounds_toArray, List.set_cons_zero, List.set_cons_succ]
  refine takeC (i := 10) (.pointer (some ⟨w.heap.size, 6, none⟩)) rfl (by kernel_rfl) (by kernel_rfl) (by kernel_rfl) (fun _ _ _ h => h) (Or.inl ⟨by rfl, fun w hw => by go_simp⟩) s1 ?_
  try simp only [Act.put, List.setIfInBounds_toArray, List.set_cons_zero, List.set_cons_succ]
  refine takeC (i := 11) (.slice Ar rows.length cr) rfl (by kernel_rfl) (by kernel_rfl) (by kernel_rfl) (fun _ _ _ h => h) (Or.inl ⟨by rfl, fun w hw => by go_simp⟩) s1 ?_
  try simp only [Act.put, List.setIfInBounds_toArray, List.set_cons_zero, List.set_cons_succ]
  refine consC (i := 5) rfl (by kernel_rfl) (fun K hK => ?_)
  go_simp
  have sz3 := F3.out.size
  have hwP : ¬ P w.heap.size := fun h => by have := PL.out _ h; omega
  have FP : ∀ k, F k → k < w.heap.size := fun k h => PL.out k (H3.out.p k (.inl h))
  have GP : ∀ k, G k → k < w.heap.size := fun k h => PL.out k (H3.out.p k (.inr (.inl h)))
  refine (ans_c H3.out.ent (some ⟨g, 0, none⟩) rows (rows.length + 3) (S3.out.rd.mono fun k hk hF => by have := FP k hF; omega) HLN.out).mono ?_
  rintro _ w4 ⟨rfl, F', hE4, f4, g4⟩
  rw [HR.out.ans rows.length]
  have ws := f4.size
  have M4 := Lib.hid (H3.out.entry hE4 f4 g4)
  have s4 : w4.cell? ⟨I.bb, 0, none⟩ = some (.pointer (some ⟨I.eb, 0, none⟩)) ∧ w4.cell? ⟨I.bb, 1, none⟩ = some (.pointer (some ⟨I.rb, 0, none⟩)) ∧ w4.cell? ⟨w.heap.size, 6, none⟩ = some (.slice Ar rows.length cr) :=
    ⟨f4.cell_some s1.1 fun h => (H3.out.fs _ (.inl h)).1 rfl, f4.cell_some s1.2.1 fun h => (H3.out.fs _ (.inl h)).1 rfl, f4.cell_some s1.2.2 fun h => hwP (H3.out.p _ (.inl h))⟩
  have S4 := Lib.hid (S3.out.frm f4 fun q h1 h2 h => by have := FP q h; omega)
  have D4 := Lib.hid (D3.out.frm f4 fun k hk h => hk (H3.out.p _ (.inl h)))
  have F4 := Lib.hid (F1.out.any.trans' (F3.out.any.trans' (f4.mono fun k _ h => H3.out.p k (.inl h))))
  try dsimp only
  refine hK.out _ _ s4 (fun hHeld => ?_)
  clear hK K
  try simp only [Act.put, List.setIfInBounds_toArray, List.set_cons_zero, List.set_cons_succ]
  refine consC (i := 12) rfl (by kernel_rfl) (fun K hK => ?_)
  go_simp
  refine (rans_c M4.out.ref HB.out Ar rows cr (D4.out.mono fun k hk hG => hk (H3.out.p k (.inr (.inl hG)))) HLN.out).mono ?_
  rintro _ w5 ⟨rfl, G', hE5, f5, g5⟩
  have M5 := Lib.hid (M4.out.refe hE5 (by split <;> exact ⟨rfl, rfl⟩) f5 g5)
  have gP : ∀ k, G k → P k := fun k h => H3.out.p k (.inr (.inl h))
  have s5 : w5.cell? ⟨I.bb, 0, none⟩ = some (.pointer (some ⟨I.eb, 0, none⟩)) ∧ w5.cell? ⟨I.bb, 1, none⟩ = some (.pointer (some ⟨I.rb, 0, none⟩)) ∧ w5.cell? ⟨w.heap.size, 6, none⟩ = some (.slice Ar rows.length cr) :=
    ⟨f5.cell_some s4.1 fun h => (H3.out.fs _ (.inr h)).1 rfl, f5.cell_some s4.2.1 fun h => (H3.out.fs _ (.inr h)).1 rfl, f5.cell_some s4.2.2 fun h => hwP (gP _ h)⟩
  have S5 := Lib.hid (S4.out.frm f5 fun q h1 h2 h => by have := GP q h; omega)
  have D5 := Lib.hid (D4.out.frm f5 fun k hk h => hk (gP _ h))
  have F5 := Lib.hid (F4.out.trans' (f5.mono fun k _ h => gP k h))
  have ws5 := f5.size
  have LG : Hid (w1.heap.size ≤ g ∧ g < w3.heap.size) := Lib.hid ⟨S3.out.geg, S3.out.blk.lt⟩
  have LS : Hid (∀ j, j < rows.length → w1.heap.size ≤ gs j ∧ gs j < w3.heap.size) := Lib.hid fun j hj => ⟨S3.out.ge j (by omega), S3.out.lt (by omega)⟩
  have hgQ : Hid (∀ k, (w1.heap.size ≤ k ∧ k < w3.heap.size) → w.heap.size ≤ k ∧ ¬ More (More P w3 w4) w4 w5 k) := Lib.hid fun k hk => ⟨by omega, fun h => by
    rcases h with (h | h) | h
    · have := PL.out k h; omega
    · omega
    · omega⟩
  have hQ5 : Hid (∀ k, More (More P w3 w4) w4 w5 k → More P w w5 k) := Lib.hid fun k h => by
    rcases h with (h | h) | h
    · exact .inl h
    · exact .inr ⟨by omega, by omega⟩
    · exact .inr ⟨by omega, h.2⟩
  generalize ransErr t rows.length = er at *
  clear s1 s4 f4 g4 f5 g5 hE4 hE5 S3 S4 D3 D4 H3 M4 hHeld FP GP gP
  try dsimp only
  refine hK.out _ _ s5 (fun hHeld => ?_)
  clear hK K
  try simp only [Act.put, List.setIfInBounds_toArray, List.set_cons_zero, List.set_cons_succ]
  refine takeC (i := 13) (.bool false) rfl (by kernel_rfl) (by kernel_rfl) (by kernel_rfl) (fun _ _ _ h => h) (Or.inl ⟨by rfl, fun w hw => by go_simp⟩) s5 ?_
  try simp only [Act.put, List.setIfInBounds_toArray, List.set_cons_zero, List.set_cons_succ]
  refine takeC (i := 14) (.bool false) rfl (by kernel_rfl) (by kernel_rfl) (by kernel_rfl) (fun _ _ _ h => h) (Or.inl ⟨by rfl, fun w hw => by go_simp⟩) s5 ?_
  try simp only [Act.put, List.setIfInBounds_toArray, List.set_cons_zero, List.set_cons_succ]
  refine takeC (i := 15) (.slice (some ⟨g, 0, none⟩) rows.length (rows.length + 3)) rfl (by kernel_rfl) (by kernel_rfl) (by kernel_rfl) (fun _ _ _ h => h) (Or.inl ⟨by rfl, fun w hw => by go_simp⟩) s5 ?_
  try simp only [Act.put, List.setIfInBounds_toArray, List.set_cons_zero, List.set_cons_succ]
  refine takeC (i := 16) (.pointer (some ⟨w.heap.size, 6, none⟩)) rfl (by kernel_rfl) (by kernel_rfl) (by kernel_rfl) (fun _ _ _ h => h) (Or.inl ⟨by rfl, fun w hw => by go_simp⟩) s5 ?_
  try simp only [Act.put, List.setIfInBounds_toArray, List.set_cons_zero, List.set_cons_succ]
  refine takeC (i := 17) (.slice Ar rows.length cr) rfl (by kernel_rfl) (by kernel_rfl) (by kernel_rfl) (fun _ _ _ h => h) (Or.inl ⟨by rfl, fun w hw => by go_simp⟩) s5 ?_
  try simp only [Act.put, List.setIfInBounds_toArray, List.set_cons_zero, List.set_cons_succ]
  refine consC (i := 18) rfl (by kernel_rfl) (fun K hK => ?_)
  go_simp
  refine (keptRows_any g gs w1.heap.size Ar rows cr w5 S5.out D5.out (by omega) HL4.out).mono ?_
  rintro _ w6 ⟨rfl, n6, rfl⟩
  have s6 : (w5.drewN n6).cell? ⟨I.bb, 0, none⟩ = some (.pointer (some ⟨I.eb, 0, none⟩)) ∧ (w5.drewN n6).cell? ⟨I.bb, 1, none⟩ = some (.pointer (some ⟨I.rb, 0, none⟩)) ∧ (w5.drewN n6).cell? ⟨w.heap.size, 6, none⟩ = some (.slice Ar rows.length cr) := s5
  try dsimp only
  refine hK.out _ _ s6 (fun hHeld => ?_)
  clear hK K
  try simp only [Act.put, List.setIfInBounds_toArray, List.set_cons_zero, List.set_cons_succ]
  refine takeC (i := 19) (.bool false) rfl (by kernel_rfl) (by kernel_rfl) (by kernel_rfl) (fun _ _ _ h => h) (Or.inl ⟨by rfl, fun w hw => by go_simp⟩) s6 ?_
  try simp only [Act.put, List.setIfInBounds_toArray, List.set_cons_zero, List.set_cons_succ]
  refine takeC (i := 20) (.bool false) rfl (by kernel_rfl) (by kernel_rfl) (by kernel_rfl) (fun _ _ _ h => h) (Or.inl ⟨by rfl, fun w hw => by go_simp⟩) s6 ?_
  try simp only [Act.put, List.setIfInBounds_toArray, List.set_cons_zero, List.set_cons_succ]
  refine wpAnyH_done (by kernel_rfl) ?_ _
  have A6 : Hid (AnI w5 (w5.drewN n6) g gs rows w1.heap.size w3.heap.size 0) := Lib.hid ⟨Frm.of_drewN _ _ _, ⟨_, S5.out.blk.drewN n6, fun j hj => by
    rw [arr_at (by omega), if_pos (by omega), if_neg (by omega), spv_row gs hj]⟩, fun j hj => (S5.out.row j hj (by omega)).u.frm (Frm.of_drewN noB w5 n6) fun h => h, fun i j hi hj e => S5.out.ne i j (by omega) (by omega) e, LG.out, LS.out⟩
  clear s5 s6 S5 D5 hHeld
  generalize w5.drewN n6 = w6 at *
  go_wp2_with fail
  go_loopw [6] (fun i wr => ∃ k : Nat, k ≤ rows.length ∧ i = .int .i64 k ∧ AnI w5 wr g gs rows w1.heap.size w3.heap.size k) (fun i _ => rows.length - (intOf i).toNat)
  case atStart => exact ⟨0, Nat.zero_le _, rfl, A6.out⟩
  case round =>
    obtain ⟨k, hk, rfl, hA⟩ := hrel
    have HA := Lib.hid hA
    clear hA
    by_cases hkl : k < rows.length
    · have hln : rows[k].length ≤ 4000000 := HL4.out _ (List.getElem_mem hkl)
      go_wp2_with fail
      go_loopw [7] (fun q wr => ∃ j : Nat, j ≤ rows[k].length ∧ q = .int .i64 j ∧ AnI w5 wr g gs rows w1.heap.size w3.heap.size k) (fun q _ => rows[k].length - (intOf q).toNat)
      case atStart => exact ⟨0, Nat.zero_le _, rfl, HA.out⟩
      case round =>
        obtain ⟨j, hj, rfl, hA⟩ := hrel
        obtain ⟨d1, d2⟩ := hA.cell hkl
        have HJ := Lib.hid hA
        clear hA
        by_cases hjl : j < rows[k].length
        · obtain ⟨n, y1, y2⟩ := (HJ.out.row k hkl).at_ (j := j) (by omega)
          go_upto_region 10 with fail
          have s1 : wr.drew.cell? ⟨g, k, none⟩ = some (.slice (some ⟨gs k, 0, none⟩) rows[k].length (rows[k].length + 80)) := d1
          have s0 : wr.drew.cell? ⟨gs k, j, none⟩ = some (.int .u8 n) := y1
          have z0 : wr.drew.frozen? ⟨gs k, j, none⟩ = false := y2
          have gne := HJ.out.tn hkl
          have JD : Hid (AnI w5 wr.drew g gs rows w1.heap.size w3.heap.size k) := Lib.hid ⟨HJ.out.fr.drew, HJ.out.blk, HJ.out.row, HJ.out.ne, HJ.out.lg, HJ.out.ls⟩
          refine beginZ (fun W => W.cell? ⟨g, k, none⟩ = some (.slice (some ⟨gs k, 0, none⟩) rows[k].length (rows[k].length + 80))) (fun W => W.cell? ⟨gs k, j, none⟩ = some (.int .u8 n)) [12, 14] (by kernel_rfl) ?_
          clear d1 d2 y1 y2 HJ
          generalize wr.drew = wd at *
          refine takeP (i := 0) (.slice (some ⟨g, 0, none⟩) rows.length (rows.length + 3)) rfl (by kernel_rfl) (by kernel_rfl) (by kernel_rfl) (by kernel_rfl) (fun _ _ _ h => h) (Or.inl ⟨by rfl, fun w hw => by go_simp⟩) ⟨s1, .inr s0⟩ ?_
          try simp only [Act.put, List.setIfInBounds_toArray, List.set_cons_zero, List.set_cons_succ]
          refine takeP (i := 1) (.int .i64 k) rfl (by kernel_rfl) (by kernel_rfl) (by kernel_rfl) (by kernel_rfl) (fun _ _ _ h => h) (Or.inl ⟨by rfl, fun w hw => by go_simp⟩) ⟨s1, .inr s0⟩ ?_
          try simp only [Act.put, List.setIfInBounds_toArray, List.set_cons_zero, List.set_cons_succ]
          refine takeP (i := 2) (.pointer (some ⟨g, k, none⟩)) rfl (by kernel_rfl) (by kernel_rfl) (by kernel_rfl) (by kernel_rfl) (fun _ _ _ h => h) (Or.inl ⟨by rfl, fun w hw => by go_simp⟩) ⟨s1, .inr s0⟩ ?_
          try simp only [Act.put, List.setIfInBounds_toArray, List.set_cons_zero, List.set_cons_succ]
          refine takeP (i := 3) (.slice (some ⟨gs k, 0, none⟩) rows[k].length (rows[k].length + 80)) rfl (by kernel_rfl) (by kernel_rfl) (by kernel_rfl) (by kernel_rfl) (fun _ _ _ h => h) (Or.inl ⟨by rfl, fun w hw => by go_simp⟩) ⟨s1, .inr s0⟩ ?_
          try simp only [Act.put, List.setIfInBounds_toArray, List.set_cons_zero, List.set_cons_succ]
          refine takeP (i := 4) (.int .i64 j) rfl (by kernel_rfl) (by kernel_rfl) (by kernel_rfl) (by kernel_rfl) (fun _ _ _ h => h) (Or.inl ⟨by rfl, fun w hw => by go_simp⟩) ⟨s1, .inr s0⟩ ?_
          try simp only [Act.put, List.setIfInBounds_toArray, List.set_cons_zero, List.set_cons_succ]
          refine takeP (i := 5) (.slice (some ⟨g, 0, none⟩) rows.length (rows.length + 3)) rfl (by kernel_rfl) (by kernel_rfl) (by kernel_rfl) (by kernel_rfl) (fun _ _ _ h => h) (Or.inl ⟨by rfl, fun w hw => by go_simp⟩) ⟨s1, .inr s0⟩ ?_
          try simp only [Act.put, List.setIfInBounds_toArray, List.set_cons_zero, List.set_cons_succ]
          refine takeP (i := 6) (.int .i64 k) rfl (by kernel_rfl) (by kernel_rfl) (by kernel_rfl) (by kernel_rfl) (fun _ _ _ h => h) (Or.inl ⟨by rfl, fun w hw => by go_simp⟩) ⟨s1, .inr s0⟩ ?_
          try simp only [Act.put, List.setIfInBounds_toArray, List.set_cons_zero, List.set_cons_succ]
          refine takeP (i := 7) (.pointer (some ⟨g, k, none⟩)) rfl (by kernel_rfl) (by kernel_rfl) (by kernel_rfl) (by kernel_rfl) (fun _ _ _ h => h) (Or.inl ⟨by rfl, fun w hw => by go_simp⟩) ⟨s1, .inr s0⟩ ?_
          try simp only [Act.put, List.setIfInBounds_toArray, List.set_cons_zero, List.set_cons_succ]
          refine takeP (i := 8) (.slice (some ⟨gs k, 0, none⟩) rows[k].length (rows[k].length + 80)) rfl (by kernel_rfl) (by kernel_rfl) (by kernel_rfl) (by kernel_rfl) (fun _ _ _ h => h) (Or.inl ⟨by rfl, fun w hw => by go_simp⟩) ⟨s1, .inr s0⟩ ?_
          try simp only [Act.put, List.setIfInBounds_toArray, List.set_cons_zero, List.set_cons_succ]
          refine takeP (i := 9) (.int .i64 j) rfl (by kernel_rfl) (by kernel_rfl) (by kernel_rfl) (by kernel_rfl) (fun _ _ _ h => h) (Or.inl ⟨by rfl, fun w hw => by go_simp⟩) ⟨s1, .inr s0⟩ ?_
          try simp only [Act.put, List.setIfInBounds_toArray, List.set_cons_zero, List.set_cons_succ]
          refine takeP (i := 10) (.pointer (some ⟨gs k, j, none⟩)) rfl (by kernel_rfl) (by kernel_rfl) (by kernel_rfl) (by kernel_rfl) (fun _ _ _ h => h) (Or.inl ⟨by rfl, fun w hw => by go_simp⟩) ⟨s1, .inr s0⟩ ?_
          try simp only [Act.put, List.setIfInBounds_toArray, List.set_cons_zero, List.set_cons_succ]
          refine takeS (i := 11) (.int .u8 n) rfl (by kernel_rfl) (by kernel_rfl) (by kernel_rfl) (by kernel_rfl) (by kernel_rfl) (by kernel_rfl) (fun _ _ _ h => h) (Or.inl ⟨by rfl, fun w hw => by go_simp⟩) ⟨s1, s0⟩ ?_
          try simp only [Act.put, List.setIfInBounds_toArray, List.set_cons_zero, List.set_cons_succ]
          refine consZ (i := 12) rfl (by kernel_rfl) (fun K hK => ?_)
          go_simp
          refine hK.out _ _ ⟨s1, .inl (by kernel_rfl)⟩ (fun hHeld => ?_)
          clear hK K hHeld
          try simp only [Act.put, List.setIfInBounds_toArray, List.set_cons_zero, List.set_cons_succ]
          refine takeP (i := 13) (.pointer (some ⟨gs k, j, none⟩)) rfl (by kernel_rfl) (by kernel_rfl) (by kernel_rfl) (by kernel_rfl) (fun _ _ _ h => h) (Or.inl ⟨by rfl, fun w hw => by go_simp⟩) ⟨s1, .inl (by kernel_rfl)⟩ ?_
          try simp only [Act.put, List.setIfInBounds_toArray, List.set_cons_zero, List.set_cons_succ]
          refine consZ (i := 14) rfl (by kernel_rfl) (fun K hK => ?_)
          go_simp
          refine hK.out _ _ ⟨?_, .inl (by kernel_rfl)⟩ (fun _ => ?_)
          · exact ((Frm.refl (isB (gs k)) wd).setCell (a := ⟨gs k, j, none⟩) (.inl (show isB (gs k) (gs k) from rfl)) _).cell_some s1 (fun e => gne (show g = gs k from e).symm)
          clear hK K
          refine doneZ (by kernel_rfl) ?_ _
          have HN := Lib.hid (JD.out.byte hkl j (bits .xor .u8 n 255))
          clear s1 s0 z0 gne
          go_wp2_with fail
          go_roundw
          case rel => exact ⟨j + 1, by omega, by go_num, HN.out⟩
          case measure => simp [intOf]; omega
        · have e : j = rows[k].length := by omega
          subst e
          have HN := Lib.hid (HJ.out.nil_ hkl)
          go_wp2_with fail
          go_roundw
          case rel => exact ⟨k + 1, by omega, by go_num, HN.out⟩
          case measure => simp [intOf]; omega
    · have e : k = rows.length := by omega
      subst e
      go_wp2_with fail
      go_ret
      exact ⟨rfl, StepTo.ofS M5.out R5.out RB5.out F5.out hQ5.out HA.out.fr hgQ.out PL.out⟩
end
end Go.Proofs.Ytjnoddbhfcpniaa
