/-
  EntryPlays: the law's step, the easy kinds.
-/
import Derived.Test.YtjnoddbhfcpniaaAnswL
namespace Go.Proofs.Ytjnoddbhfcpniaa
open Go.RowKit
open Go.BigFrame
set_option linter.unusedVariables false
set_option linter.unusedSimpArgs false

theorem StepTo.pre {w w1 w' : World} {I : Ids} {P : Nat → Prop} {B : Nat} (hf : Frm noB w w1) (hP : ∀ k, P k → k < w.heap.size) (h : StepTo w1 I P B w') : StepTo w I P B w' := by
  obtain ⟨F, G, s, t, m, h1, h2, h3, h4⟩ := h
  have s1 := hf.size
  have s2 := h4.size
  refine ⟨F, G, s, t, m, h1.more (fun k hk => ?_) (fun k hk => ?_), h2, h3, hf.any.trans' h4⟩
  · rcases hk with hk | hk
    · exact .inl hk
    · exact .inr ⟨by omega, hk.2⟩
  · rcases hk with hk | hk
    · have := hP k hk; omega
    · exact hk.2
theorem StepTo.stay {w w1 : World} {I : Ids} {F G P : Nat → Prop} {s : ES} {t : RS} {m : Int} {B : Nat} (h : PrM w1 I F G P s t m m) (hr : Rel s t) (hb : RB t B) (hf : Frm P w w1) (hP : ∀ k, P k → k < w.heap.size) : StepTo w I P B w1 := by
  have s1 := hf.size
  refine ⟨F, G, s, t, m, h.more (fun k hk => .inl hk) (fun k hk => ?_), hr, hb, hf⟩
  rcases hk with hk | hk
  · have := hP k hk; omega
  · exact hk.2
section
variable {w : World} {I : Ids} {F G P : Nat → Prop} {s : ES} {t : RS} {m : Int} {B : Nat}
set_option maxRecDepth 100000 in
set_option maxHeartbeats 400000 in
theorem step_sub (h : PrM w I F G P s t m m) (hr : Rel s t) (hb : RB t B) (hBB : B ≤ 1048576) (kind round at_ client : Int) (A Ar : Option Addr) (data : List UInt8) (rows : List (List UInt8)) (c cr : Nat) (hD : Rd w A (data.map bv)) (hA : data ≠ [] → ∀ k, aB A k → ¬ P k) (hL : data.length ≤ B) (hR : RdRows w Ar rows (fun k => ¬ P k)) (hRl : ∀ l ∈ rows, l.length ≤ B) (hRn : rows.length ≤ B) :
    Calls Try.prog 28 #[.pointer (some ⟨I.bb, 0, none⟩), .agg #[.int .i64 2, .int .i64 kind, .int .u64 round, .int .i64 at_, .int .i64 client, .slice A data.length c, .slice Ar rows.length cr]] w fun e w' => e = .returned (.bool true) ∧ StepTo w I P B w' := by
  have f1 : Frm noB w (w.alloc (.cells #[.int .i64 2, .int .i64 kind, .int .u64 round, .int .i64 at_, .int .i64 client, .slice A data.length c, .slice Ar rows.length cr] 68)) := (Frm.refl _ _).alloc _
  have b1 : Blk (w.alloc (.cells #[.int .i64 2, .int .i64 kind, .int .u64 round, .int .i64 at_, .int .i64 client, .slice A data.length c, .slice Ar rows.length cr] 68)) w.heap.size 68 #[.int .i64 2, .int .i64 kind, .int .u64 round, .int .i64 at_, .int .i64 client, .slice A data.length c, .slice Ar rows.length cr] := Blk.new _ _ _
  have hsz1 : w.heap.size < (w.alloc (.cells #[.int .i64 2, .int .i64 kind, .int .u64 round, .int .i64 at_, .int .i64 client, .slice A data.length c, .slice Ar rows.length cr] 68)).heap.size := b1.lt
  have H1 := Lib.hid (h.frm' f1)
  have D1 := Lib.hid (hD.frm' f1)
  have W1 := Lib.hid (hR.frm' f1)
  have B1 := Lib.hid b1
  have F1 := Lib.hid f1
  have PL := Lib.hid h.pl
  have HR := Lib.hid hr
  have HB := Lib.hid hb
  have HAP := Lib.hid hA
  have HRL := Lib.hid hRl
  clear h hD f1 b1 hr hb hA hR hRl
  go_enter Try.func28, Try.ntmps28
  go_upto_region 1 with fail
  generalize w.alloc (.cells #[.int .i64 2, .int .i64 kind, .int .u64 round, .int .i64 at_, .int .i64 client, .slice A data.length c, .slice Ar rows.length cr] 68) = w1 at *
  have c0 := B1.out.cell 0
  simp at c0
  have c1 := B1.out.cell 1
  have c2 := B1.out.cell 2
  have c3 := B1.out.cell 3
  have c4 := B1.out.cell 4
  have c5 := B1.out.cell 5
  have c6 := B1.out.cell 6
  simp at c1 c2 c3 c4 c5 c6
  go_wp2_with fail
  refine (submit_any H1.out HR.out HB.out hBB 2 kind round at_ client A Ar data c rows.length cr D1.out HAP.out hL).mono ?_
  rintro _ w2 ⟨rfl, hS⟩
  have HS := Lib.hid hS
  clear hS c0 c1 c2 c3 c4 c5 c6
  try dsimp only
  go_wp2_with fail
  go_ret
  exact ⟨rfl, HS.out.pre F1.out PL.out⟩
end
section
variable {w : World} {I : Ids} {F G P : Nat → Prop} {s : ES} {t : RS} {m : Int} {B : Nat}
set_option maxRecDepth 100000 in
set_option maxHeartbeats 400000 in
theorem step_ans (h : PrM w I F G P s t m m) (hr : Rel s t) (hb : RB t B) (hBB : B ≤ 1048576) (kind round at_ client : Int) (A Ar : Option Addr) (data : List UInt8) (rows : List (List UInt8)) (c cr : Nat) (hD : Rd w A (data.map bv)) (hA : data ≠ [] → ∀ k, aB A k → ¬ P k) (hL : data.length ≤ B) (hR : RdRows w Ar rows (fun k => ¬ P k)) (hRl : ∀ l ∈ rows, l.length ≤ B) (hRn : rows.length ≤ B) :
    Calls Try.prog 28 #[.pointer (some ⟨I.bb, 0, none⟩), .agg #[.int .i64 5, .int .i64 kind, .int .u64 round, .int .i64 at_, .int .i64 client, .slice A data.length c, .slice Ar rows.length cr]] w fun e w' => e = .returned (.bool true) ∧ StepTo w I P B w' := by
  have f1 : Frm noB w (w.alloc (.cells #[.int .i64 5, .int .i64 kind, .int .u64 round, .int .i64 at_, .int .i64 client, .slice A data.length c, .slice Ar rows.length cr] 68)) := (Frm.refl _ _).alloc _
  have b1 : Blk (w.alloc (.cells #[.int .i64 5, .int .i64 kind, .int .u64 round, .int .i64 at_, .int .i64 client, .slice A data.length c, .slice Ar rows.length cr] 68)) w.heap.size 68 #[.int .i64 5, .int .i64 kind, .int .u64 round, .int .i64 at_, .int .i64 client, .slice A data.length c, .slice Ar rows.length cr] := Blk.new _ _ _
  have hsz1 : w.heap.size < (w.alloc (.cells #[.int .i64 5, .int .i64 kind, .int .u64 round, .int .i64 at_, .int .i64 client, .slice A data.length c, .slice Ar rows.length cr] 68)).heap.size := b1.lt
  have H1 := Lib.hid (h.frm' f1)
  have D1 := Lib.hid (hD.frm' f1)
  have W1 := Lib.hid (hR.frm' f1)
  have B1 := Lib.hid b1
  have F1 := Lib.hid f1
  have PL := Lib.hid h.pl
  have HR := Lib.hid hr
  have HB := Lib.hid hb
  have HAP := Lib.hid hA
  have HRL := Lib.hid hRl
  clear h hD f1 b1 hr hb hA hR hRl
  go_enter Try.func28, Try.ntmps28
  go_upto_region 1 with fail
  generalize w.alloc (.cells #[.int .i64 5, .int .i64 kind, .int .u64 round, .int .i64 at_, .int .i64 client, .slice A data.length c, .slice Ar rows.length cr] 68) = w1 at *
  have c0 := B1.out.cell 0
  simp at c0
  have c1 := B1.out.cell 1
  have c2 := B1.out.cell 2
  have c3 := B1.out.cell 3
  have c4 := B1.out.cell 4
  have c5 := B1.out.cell 5
  have c6 := B1.out.cell 6
  simp at c1 c2 c3 c4 c5 c6
  go_wp2_with fail
  refine (answer_any H1.out HR.out HB.out hBB 5 kind round at_ client A Ar data.length rows c cr W1.out HRL.out hRn).mono ?_
  rintro _ w2 ⟨rfl, hS⟩
  have HS := Lib.hid hS
  clear hS c0 c1 c2 c3 c4 c5 c6
  try dsimp only
  go_wp2_with fail
  go_ret
  exact ⟨rfl, HS.out.pre F1.out PL.out⟩
end
section
variable {w : World} {I : Ids} {F G P : Nat → Prop} {s : ES} {t : RS} {m : Int} {B : Nat}
set_option maxRecDepth 100000 in
set_option maxHeartbeats 400000 in
theorem step_none (h : PrM w I F G P s t m m) (hr : Rel s t) (hb : RB t B) (hBB : B ≤ 1048576) (dv : Int) (hv : (dv == 1) = false ∧ (dv == 2) = false ∧ (dv == 3) = false ∧ (dv == 4) = false ∧ (dv == 5) = false ∧ (dv == 6) = false) (kind round at_ client : Int) (A Ar : Option Addr) (data : List UInt8) (rows : List (List UInt8)) (c cr : Nat) (hD : Rd w A (data.map bv)) (hA : data ≠ [] → ∀ k, aB A k → ¬ P k) (hL : data.length ≤ B) (hR : RdRows w Ar rows (fun k => ¬ P k)) (hRl : ∀ l ∈ rows, l.length ≤ B) (hRn : rows.length ≤ B) :
    Calls Try.prog 28 #[.pointer (some ⟨I.bb, 0, none⟩), .agg #[.int .i64 dv, .int .i64 kind, .int .u64 round, .int .i64 at_, .int .i64 client, .slice A data.length c, .slice Ar rows.length cr]] w fun e w' => e = .returned (.bool true) ∧ StepTo w I P B w' := by
  have f1 : Frm noB w (w.alloc (.cells #[.int .i64 dv, .int .i64 kind, .int .u64 round, .int .i64 at_, .int .i64 client, .slice A data.length c, .slice Ar rows.length cr] 68)) := (Frm.refl _ _).alloc _
  have b1 : Blk (w.alloc (.cells #[.int .i64 dv, .int .i64 kind, .int .u64 round, .int .i64 at_, .int .i64 client, .slice A data.length c, .slice Ar rows.length cr] 68)) w.heap.size 68 #[.int .i64 dv, .int .i64 kind, .int .u64 round, .int .i64 at_, .int .i64 client, .slice A data.length c, .slice Ar rows.length cr] := Blk.new _ _ _
  have hsz1 : w.heap.size < (w.alloc (.cells #[.int .i64 dv, .int .i64 kind, .int .u64 round, .int .i64 at_, .int .i64 client, .slice A data.length c, .slice Ar rows.length cr] 68)).heap.size := b1.lt
  have H1 := Lib.hid (h.frm' f1)
  have D1 := Lib.hid (hD.frm' f1)
  have W1 := Lib.hid (hR.frm' f1)
  have B1 := Lib.hid b1
  have F1 := Lib.hid f1
  have PL := Lib.hid h.pl
  have HR := Lib.hid hr
  have HB := Lib.hid hb
  have HAP := Lib.hid hA
  have HRL := Lib.hid hRl
  clear h hD f1 b1 hr hb hA hR hRl
  go_enter Try.func28, Try.ntmps28
  go_upto_region 1 with fail
  generalize w.alloc (.cells #[.int .i64 dv, .int .i64 kind, .int .u64 round, .int .i64 at_, .int .i64 client, .slice A data.length c, .slice Ar rows.length cr] 68) = w1 at *
  have c0 := B1.out.cell 0
  simp at c0
  obtain ⟨v1, v2, v3, v4, v5, v6⟩ := hv
  go_wp2_with fail
  go_ret
  exact ⟨rfl, StepTo.stay H1.out HR.out HB.out F1.out.any PL.out⟩
end
end Go.Proofs.Ytjnoddbhfcpniaa
