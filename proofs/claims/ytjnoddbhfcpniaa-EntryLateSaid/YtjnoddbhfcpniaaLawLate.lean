/-
  EntryLate: the walk, four ways (round 0 or not; the moment come or not). Printed by wip/tools/late.py.
-/
import Derived.Test.YtjnoddbhfcpniaaAwake
namespace Go.Proofs.Ytjnoddbhfcpniaa
open Go.RowKit
set_option linter.unusedVariables false
set_option linter.unusedSimpArgs false

theorem laid_nil (w : World) (M : Nat → Prop) : RdRows w none [] M := ⟨[], Rd.nil _ _, rfl, fun i h => absurd h (by simp), fun h => absurd rfl h⟩
theorem copyRows_s (A : Option Addr) (xss : List (List UInt8)) (c : Nat) (w : World) {N : Nat → Prop} (hx : RdRows w A xss N) (h1 : xss.length ≤ 1000000) (h2 : ∀ l ∈ xss, Len l.length) :
    Calls Try.prog 20 #[.slice A xss.length c] w fun e w' => ∃ A' c', e = .returned (.slice A' xss.length c') ∧ RdRows w' A' xss (fun k => w.heap.size ≤ k ∧ k < w'.heap.size) ∧ Frm noB w w' :=
  (copyRows_any A xss c w hx h1 h2).mono fun e w' ⟨v, vs, he, hO, hf⟩ => by
    obtain ⟨A', c', rfl, _⟩ := own_slice hO.row
    obtain ⟨hn, hR⟩ := hO.rd
    exact ⟨A', c', by rw [he, hn], hR, hf⟩
theorem len_small {xss : List (List UInt8)} (h : ∀ l ∈ xss, l.length ≤ 1000) : ∀ l ∈ xss, Len l.length := fun l hl => Len.of (h l hl)

set_option maxRecDepth 100000 in
set_option maxHeartbeats 4000000 in
theorem lateZA (til now : Int) (w : World) (ht : til ≤ now) :
    Calls Try.prog 6 #[.int .i64 til, .int .i64 now, .int .u64 0] w fun e w' => e = .returned (.bool true) ∧ Frm noB w w' := by
  have hr : (9 : Int) ≠ 0 := by decide
  have HR := Lib.hid hr
  clear hr
  go_enter Try.func6, Try.ntmps6
  try dsimp only
  go_wp2_with fail
  refine (awake_any w).mono ?_
  rintro e w1 ⟨rfl, hf⟩
  have HF0 := Lib.hid hf
  clear hf
  try dsimp only
  go_wp2_with fail
  refine (new0 (.func 11) #[] 2 2 w1 (by decide)).mono ?_
  rintro e w2 ⟨b, rfl, hE, _⟩
  have HE := Lib.hid hE
  clear hE
  try dsimp only
  go_wp2_with fail
  refine (open0 HE.out 2 9 til).mono ?_
  rintro e w3 ⟨rfl, hE, _⟩
  have e0 : openErr (es0 2 2) 2 9 = 0 := by simp [openErr, es0, HR.out]
  rw [e0] at hE ⊢
  have HE3 : Hid (Ent0 w1 w3 b _ (opened (es0 2 2) 2 9 til 2) noB) := hE
  clear hE e0 HE
  try dsimp only
  go_wp2_with fail
  refine (open0 HE3.out 2 9 til).mono ?_
  rintro e w4 ⟨rfl, hE, _⟩
  have e0 : openErr (opened (es0 2 2) 2 9 til 2) 2 9 = 251 := by simp [openErr, opened, HR.out]
  rw [e0] at hE ⊢
  have HE4 : Hid (Ent0 w1 w4 b _ (opened (es0 2 2) 2 9 til 2) noB) := hE
  clear hE e0 HE3
  try dsimp only
  go_wp2_with fail
  refine (sub0 HE4.out (fun _ h => h.elim) 1 [3, 4] (some ⟨w4.heap.size, 0, none⟩) 2 ((Frm.refl _ _).alloc _) (Rd.laid w4 5 [3, 4]) (fun k ⟨a, ha, hk⟩ => by cases ha; simp at hk; omega) (Len.of (by decide))).mono ?_
  rintro e w5 ⟨rfl, hE, _⟩
  have HE5 : Hid (Ent0 w1 w5 b _ (taken (opened (es0 2 2) 2 9 til 2) 1 [3, 4]) noB) := hE
  rw [show subErr (opened (es0 2 2) 2 9 til 2) 1 [3, 4] = 0 from rfl]
  clear hE HE4
  try dsimp only
  go_wp2_with fail
  refine (tick0 HE5.out now rfl ht).mono ?_
  rintro e w6 ⟨Aw, cw, Ax, cx, M, rfl, hW, hAw, hX, hM, hE, _⟩
  have HE6 : Hid (Ent0 w1 w6 b _ (closed (taken (opened (es0 2 2) 2 9 til 2) 1 [3, 4])) (fun k => noB k ∨ M k ∨ aB Aw k)) := hE
  have HW6 : Hid (Rd w6 Aw ([1].map iv)) := hW
  have HX6 : Hid (RdRows w6 Ax [[3, 4]] M) := hX
  have HAw := Lib.hid hAw
  have HM := Lib.hid hM
  clear hE hW hX hAw hM HE5
  have hdt : (!decide (now < til)) = true := by simp; omega
  try dsimp only
  go_wp2_with fail
  have BV := Lib.hid (Blk.new w6 39 #[.int .i64 2, .int .u64 9, .slice Aw 1 cw, .slice Ax 1 cx])
  have f7 : Frm noB w6 ((w6.alloc (.cells #[.int .i64 2, .int .u64 9, .slice Aw 1 cw, .slice Ax 1 cx] 39)).alloc (.cells #[.int .i64 1] 3)) := ((Frm.refl _ _).alloc _).alloc _
  refine (eqInts_any Aw (some ⟨w6.heap.size + 1, 0, none⟩) [1] [1] cw 1 _ (HW6.out.frm' f7) (Rd.laidI_at (w6.alloc (.cells #[.int .i64 2, .int .u64 9, .slice Aw 1 cw, .slice Ax 1 cx] 39)) 3 [1] _ (by simp)) (Len.of (by decide)) (Len.of (by decide))).mono ?_
  rintro e w7 ⟨rfl, hf7⟩
  rw [show eql [(1 : Int)] [1] = true from rfl]
  have b7 := (BV.out.alloc (.cells #[.int .i64 1] 3)).frm' hf7
  have HG : Hid (∃ g, g = w6.heap.size) := ⟨_, rfl⟩
  have F67 := f7.trans' hf7
  have hgl : w6.heap.size < w7.heap.size := b7.lt
  have hX7 := HX6.out.frm' F67
  obtain ⟨N, hNM, hNg, hN7, hE7⟩ : ∃ N : Nat → Prop, (∀ k, M k → N k) ∧ N w6.heap.size ∧ (∀ k, N k → k < w7.heap.size) ∧ Ent0 w1 w7 b _ (closed (taken (opened (es0 2 2) 2 9 til 2) 1 [3, 4])) N :=
    ⟨fun k => (noB k ∨ M k ∨ aB Aw k) ∨ isB w6.heap.size k, fun k h => .inl (.inr (.inl h)), .inr rfl, fun k h => by
    rcases h with (h | h | h) | h
    · exact h.elim
    · have := (HM.out k h).2; have := F67.size; omega
    · have := (HAw.out k h).2; have := F67.size; omega
    · have h : k = w6.heap.size := h; omega, (HE6.out.more (M := fun k => (noB k ∨ M k ∨ aB Aw k) ∨ isB w6.heap.size k) fun k h => by
    rcases h with h | h
    · exact .inl h
    · right; left; have h : k = w6.heap.size := h; omega).frm F67⟩
  have HE7 := Lib.hid hE7
  have HX7 := Lib.hid hX7
  have HB7 : Hid (Blk w7 w6.heap.size 39 #[.int .i64 2, .int .u64 9, .slice Aw 1 cw, .slice Ax 1 cx]) := b7
  have HNM := Lib.hid hNM
  have HNg := Lib.hid hNg
  have HN7 := Lib.hid hN7
  clear b7 F67 hgl HE6 HX6 HW6 hX7 hNM hNg hN7 hE7 BV f7 hf7 HAw HM
  try dsimp only
  go_wp2_with fail
  refine (tickNo0 HE7.out til (.inl (show (2 : Int) ≠ 1 by decide))).mono ?_
  rintro e w8 ⟨rfl, hE, hf8⟩
  have HE8 := Lib.hid (hE.frm ((Frm.refl _ _).alloc (.cells #[.int .i64 0, .int .u64 0, .slice none 0 0, .slice none 0 0] 39)))
  have HF8 := Lib.hid (hf8.alloc (.cells #[.int .i64 0, .int .u64 0, .slice none 0 0, .slice none 0 0] 39))
  clear hE hf8 HE7
  try dsimp only
  go_wp2_with fail
  refine (closeNo0 HE8.out (show (2 : Int) ≠ 1 by decide)).mono ?_
  rintro e w9 ⟨rfl, hE, hf9⟩
  have HE9 := Lib.hid (hE.frm ((Frm.refl _ _).alloc (.cells #[.int .i64 0, .int .u64 0, .slice none 0 0, .slice none 0 0] 39)))
  have HF9 := Lib.hid (HF8.out.trans' (hf9.alloc (.cells #[.int .i64 0, .int .u64 0, .slice none 0 0, .slice none 0 0] 39)))
  clear hE hf9 HE8 HF8
  try dsimp only
  go_wp2_with fail
  have hs9 := HF9.out.size
  refine (sub0 HE9.out (fun k h => Nat.lt_of_lt_of_le (HN7.out k h) hs9) 0 [5, 6] (some ⟨w9.heap.size + 1, 0, none⟩) 2 ((Frm.refl _ _).alloc _) (Rd.laid_at (w9.alloc (.cells #[.int .i64 0, .int .u64 0, .slice none 0 0, .slice none 0 0] 39)) 5 [5, 6] _ (by simp)) (fun k ⟨a, ha, hk⟩ => by cases ha; simp at hk; simp; omega) (Len.of (by decide))).mono ?_
  rintro e wA ⟨rfl, hE, hfA⟩
  rw [show subErr (closed (taken (opened (es0 2 2) 2 9 til 2) 1 [3, 4])) 0 [5, 6] = 290 from rfl]
  have HEA : Hid (Ent0 w1 wA b _ (closed (taken (opened (es0 2 2) 2 9 til 2) 1 [3, 4])) N) := hE
  have BA := (HB7.out.frm' (HF9.out.alloc (.cells #[.int .u8 5, .int .u8 6] 5))).frm hfA fun h => h.2 HNg.out
  have HXA := Lib.hid ((HX7.out.frm' (HF9.out.alloc (.cells #[.int .u8 5, .int .u8 6] 5))).frm hfA fun k hk h => h.2 (HNM.out k hk))
  have HSA := Lib.hid (Nat.le_trans (Nat.le_trans hs9 ((Frm.refl noB _).alloc (.cells #[.int .u8 5, .int .u8 6] 5)).size) hfA.size)
  have k0 := BA.cell 0
  have k1 := BA.cell 1
  simp at k0 k1
  have HBA := Lib.hid BA
  clear hE hfA BA HE9 hs9
  try dsimp only
  go_wp2_with fail
  refine (open0 HEA.out 1 9 0).mono ?_
  rintro e wB ⟨rfl, hE, hfB⟩
  have e0 : openErr (closed (taken (opened (es0 2 2) 2 9 til 2) 1 [3, 4])) 1 9 = 0 := by simp [openErr, closed, HR.out]
  rw [e0] at hE ⊢
  have HEB : Hid (Ent0 w1 wB b _ (opened (closed (taken (opened (es0 2 2) 2 9 til 2) 1 [3, 4])) 1 9 0 2) N) := hE
  have BB := HBA.out.frm hfB fun h => h.2 HNg.out
  have HXB := Lib.hid (HXA.out.frm hfB fun k hk h => h.2 (HNM.out k hk))
  have HSB := Lib.hid (Nat.le_trans HSA.out hfB.size)
  have k3 := BB.cell 3
  simp at k3
  clear hE e0 hfB BB HEA HBA HXA k0 k1
  try dsimp only
  go_wp2_with fail
  refine (copyRows_s Ax [[3, 4]] cx _ HXB.out (by decide) (len_small (by decide))).mono ?_
  rintro e wC ⟨AC, cC, rfl, hRC, hfC⟩
  have HRC := Lib.hid hRC
  have HFC := Lib.hid hfC
  clear hRC hfC k3
  try dsimp only
  go_wp2_with fail
  refine (ans0 HEB.out (fun k h => Nat.lt_of_lt_of_le (HN7.out k h) HSB.out) AC [[3, 4]] cC HFC.out HRC.out (fun k h => .inr (.inl h.1)) (len_small (by decide))).mono ?_
  rintro e wD ⟨rfl, hE, _⟩
  have HED : Hid (Ent0 w1 wD b _ (opened (closed (taken (opened (es0 2 2) 2 9 til 2) 1 [3, 4])) 1 9 0 2) N) := hE
  rw [show ansErr (opened (closed (taken (opened (es0 2 2) 2 9 til 2) 1 [3, 4])) 1 9 0 2) ([[3, 4]] : List (List UInt8)).length = 251 from rfl]
  clear hE HEB
  try dsimp only
  go_wp2_with fail
  refine (close0 HED.out rfl).mono ?_
  rintro e wE ⟨Aw2, cw2, Ax2, cx2, M2, rfl, _, _, _, _, hE, _⟩
  have HEE : Hid (Ent0 w1 (wE.alloc (.cells #[.int .i64 1, .int .u64 9, .slice Aw2 0 cw2, .slice Ax2 0 cx2] 39)) b _ (closed (opened (closed (taken (opened (es0 2 2) 2 9 til 2) 1 [3, 4])) 1 9 0 2)) (isB wE.heap.size)) :=
    (hE.more (M := isB wE.heap.size) fun k h => .inr (.inl (by have h : k = wE.heap.size := h; omega))).frm ((Frm.refl _ _).alloc _)
  have HBE := Lib.hid (Blk.new wE 39 #[.int .i64 1, .int .u64 9, .slice Aw2 0 cw2, .slice Ax2 0 cx2])
  clear hE HED
  try dsimp only
  go_wp2_with fail
  refine (col0 HEE.out 1 ⟨by decide, show (1 : Int) < 2 by decide⟩).mono ?_
  rintro e wF ⟨AF, cF, rfl, _, _, hE, hfF⟩
  have HEF := Lib.hid (hE.more (M := noB) fun k h => h.elim)
  have BF := HBE.out.frm hfF fun h => h.2 rfl
  have k2 := BF.cell 2
  have k3 := BF.cell 3
  simp at k2 k3
  clear hE hfF BF HEE HBE
  rw [show ((closed (opened (closed (taken (opened (es0 2 2) 2 9 til 2) 1 [3, 4])) 1 9 0 2)).replies 1).isSome = false from rfl]
  try dsimp only
  go_wp2_with fail
  refine (ans0 HEF.out (fun k h => h.elim) none [] 0 (Frm.refl _ _) (laid_nil _ noB) (fun k h => h.elim) (by simp)).mono ?_
  rintro e wG ⟨rfl, hE, _⟩
  rw [show ansErr (collected (closed (opened (closed (taken (opened (es0 2 2) 2 9 til 2) 1 [3, 4])) 1 9 0 2)) 1) ([] : List (List UInt8)).length = 0 from rfl]
  have HEG := Lib.hid hE.old
  clear hE k2 k3
  try dsimp only
  go_wp2_with fail
  go_ret
  exact ⟨rfl, HF0.out.trans' HEG.out⟩

set_option maxRecDepth 100000 in
set_option maxHeartbeats 4000000 in
theorem lateZB (til now : Int) (w : World) (ht : now < til) :
    Calls Try.prog 6 #[.int .i64 til, .int .i64 now, .int .u64 0] w fun e w' => e = .returned (.bool true) ∧ Frm noB w w' := by
  have hr : (9 : Int) ≠ 0 := by decide
  have HR := Lib.hid hr
  clear hr
  go_enter Try.func6, Try.ntmps6
  try dsimp only
  go_wp2_with fail
  refine (awake_any w).mono ?_
  rintro e w1 ⟨rfl, hf⟩
  have HF0 := Lib.hid hf
  clear hf
  try dsimp only
  go_wp2_with fail
  refine (new0 (.func 11) #[] 2 2 w1 (by decide)).mono ?_
  rintro e w2 ⟨b, rfl, hE, _⟩
  have HE := Lib.hid hE
  clear hE
  try dsimp only
  go_wp2_with fail
  refine (open0 HE.out 2 9 til).mono ?_
  rintro e w3 ⟨rfl, hE, _⟩
  have e0 : openErr (es0 2 2) 2 9 = 0 := by simp [openErr, es0, HR.out]
  rw [e0] at hE ⊢
  have HE3 : Hid (Ent0 w1 w3 b _ (opened (es0 2 2) 2 9 til 2) noB) := hE
  clear hE e0 HE
  try dsimp only
  go_wp2_with fail
  refine (open0 HE3.out 2 9 til).mono ?_
  rintro e w4 ⟨rfl, hE, _⟩
  have e0 : openErr (opened (es0 2 2) 2 9 til 2) 2 9 = 251 := by simp [openErr, opened, HR.out]
  rw [e0] at hE ⊢
  have HE4 : Hid (Ent0 w1 w4 b _ (opened (es0 2 2) 2 9 til 2) noB) := hE
  clear hE e0 HE3
  try dsimp only
  go_wp2_with fail
  refine (sub0 HE4.out (fun _ h => h.elim) 1 [3, 4] (some ⟨w4.heap.size, 0, none⟩) 2 ((Frm.refl _ _).alloc _) (Rd.laid w4 5 [3, 4]) (fun k ⟨a, ha, hk⟩ => by cases ha; simp at hk; omega) (Len.of (by decide))).mono ?_
  rintro e w5 ⟨rfl, hE, _⟩
  have HE5 : Hid (Ent0 w1 w5 b _ (taken (opened (es0 2 2) 2 9 til 2) 1 [3, 4]) noB) := hE
  rw [show subErr (opened (es0 2 2) 2 9 til 2) 1 [3, 4] = 0 from rfl]
  clear hE HE4
  try dsimp only
  go_wp2_with fail
  refine (tickNo0 HE5.out now (.inr ht)).mono ?_
  rintro e wa ⟨rfl, hE, _⟩
  have HEa := Lib.hid ((hE.more (M := isB wa.heap.size) fun k h => .inr (.inl (by have h : k = wa.heap.size := h; omega))).frm ((Frm.refl _ _).alloc (.cells #[.int .i64 0, .int .u64 0, .slice none 0 0, .slice none 0 0] 39)))
  have BZ := Lib.hid (Blk.new wa 39 #[.int .i64 0, .int .u64 0, .slice none 0 0, .slice none 0 0])
  have hsza := hE.size
  have HSZ := Lib.hid hsza
  clear hE HE5 hsza
  have hdt : (!decide (now < til)) = false := by simp; omega
  try dsimp only
  go_wp2_with fail
  refine (sub0 HEa.out (fun k h => by have h : k = wa.heap.size := h; simp; omega) 0 [5, 6] (some ⟨wa.heap.size + 1, 0, none⟩) 2 ((Frm.refl _ _).alloc _) (Rd.laid_at (wa.alloc (.cells #[.int .i64 0, .int .u64 0, .slice none 0 0, .slice none 0 0] 39)) 5 [5, 6] _ (by simp)) (fun k ⟨a, ha, hk⟩ => by cases ha; simp at hk; simp; omega) (Len.of (by decide))).mono ?_
  rintro e wb ⟨rfl, hE, hfb⟩
  rw [show subErr (taken (opened (es0 2 2) 2 9 til 2) 1 [3, 4]) 0 [5, 6] = 0 from rfl]
  have HEb : Hid (Ent0 w1 wb b _ (taken (taken (opened (es0 2 2) 2 9 til 2) 1 [3, 4]) 0 [5, 6]) (isB wa.heap.size)) := hE
  have BZb := Lib.hid ((BZ.out.alloc (.cells #[.int .u8 5, .int .u8 6] 5)).frm hfb fun h => h.2 rfl)
  clear hE hfb HEa BZ
  try dsimp only
  go_wp2_with fail
  refine (tick0 HEb.out til rfl (Int.le_refl _)).mono ?_
  rintro e wc ⟨Aw, cw, Ax, cx, M, rfl, hW, hAw, hX, hM, hE, hfc⟩
  have Bc := BZb.out.frm hfc fun h => h.2 rfl
  have g0 := Bc.cell 0
  have g1 := Bc.cell 1
  have g2 := Bc.cell 2
  have g3 := Bc.cell 3
  have y0 := Bc.frozen 0
  have y1 := Bc.frozen 1
  have y2 := Bc.frozen 2
  have y3 := Bc.frozen 3
  simp at g0 g1 g2 g3
  have B6 := (((Bc.set_ 0 (.int .i64 2)).set_ 1 (.int .u64 9)).set_ 2 (.slice Aw 2 cw)).set_ 3 (.slice Ax 2 cx)
  simp only [List.setIfInBounds_toArray, List.set_cons_succ, List.set_cons_zero] at B6
  have F6 := ((((Frm.refl (isB wa.heap.size) wc).setCell (a := ⟨wa.heap.size, 0, none⟩) (.inl (show isB wa.heap.size wa.heap.size from rfl)) (.int .i64 2)).setCell (a := ⟨wa.heap.size, 1, none⟩) (.inl (show isB wa.heap.size wa.heap.size from rfl)) (.int .u64 9)).setCell (a := ⟨wa.heap.size, 2, none⟩) (.inl (show isB wa.heap.size wa.heap.size from rfl)) (.slice Aw 2 cw)).setCell (a := ⟨wa.heap.size, 3, none⟩) (.inl (show isB wa.heap.size wa.heap.size from rfl)) (.slice Ax 2 cx)
  have hwa : wa.heap.size < wb.heap.size := BZb.out.lt
  have HB6 := Lib.hid B6
  have HF6 := Lib.hid F6
  have HAw := Lib.hid hAw
  have HM := Lib.hid fun k hk => (hM k hk)
  have HWc : Hid (Rd wc Aw ([1, 0].map iv)) := hW
  have HXc : Hid (RdRows wc Ax [[3, 4], [5, 6]] M) := hX
  have HEc : Hid (Ent0 w1 wc b _ (closed (taken (taken (opened (es0 2 2) 2 9 til 2) 1 [3, 4]) 0 [5, 6])) (fun k => isB wa.heap.size k ∨ M k ∨ aB Aw k)) := hE
  have HBW := Lib.hid hwa
  clear hE hW hX hAw hM hfc Bc B6 F6 hwa HEb BZb
  rw [show (taken (taken (opened (es0 2 2) 2 9 til 2) 1 [3, 4]) 0 [5, 6]).who.length = 2 from rfl, show (taken (taken (opened (es0 2 2) 2 9 til 2) 1 [3, 4]) 0 [5, 6]).boxes.length = 2 from rfl, show (taken (taken (opened (es0 2 2) 2 9 til 2) 1 [3, 4]) 0 [5, 6]).kind = 2 from rfl, show (taken (taken (opened (es0 2 2) 2 9 til 2) 1 [3, 4]) 0 [5, 6]).round = 9 from rfl]
  try dsimp only
  go_wp2_with fail
  have hsz6 : wc.heap.size = ((((wc.setCell ⟨wa.heap.size, 0, none⟩ (.int .i64 2)).setCell ⟨wa.heap.size, 1, none⟩ (.int .u64 9)).setCell ⟨wa.heap.size, 2, none⟩ (.slice Aw 2 cw)).setCell ⟨wa.heap.size, 3, none⟩ (.slice Ax 2 cx)).heap.size := by simp
  generalize ((((wc.setCell ⟨wa.heap.size, 0, none⟩ (.int .i64 2)).setCell ⟨wa.heap.size, 1, none⟩ (.int .u64 9)).setCell ⟨wa.heap.size, 2, none⟩ (.slice Aw 2 cw)).setCell ⟨wa.heap.size, 3, none⟩ (.slice Ax 2 cx)) = w6 at *
  have f7 : Frm noB w6 (w6.alloc (.cells #[.int .i64 1, .int .i64 0] 3)) := (Frm.refl _ _).alloc _
  have HW6 := Lib.hid (HWc.out.frm HF6.out fun k hk h => by have := (HAw.out k hk).1; have := HBW.out; have h : k = wa.heap.size := h; omega)
  have HX6 := Lib.hid (HXc.out.frm HF6.out fun k hk h => (HM.out k hk).1.2 h)
  have HE6 : Hid (Ent0 w1 w6 b _ (closed (taken (taken (opened (es0 2 2) 2 9 til 2) 1 [3, 4]) 0 [5, 6])) (fun k => isB wa.heap.size k ∨ M k ∨ aB Aw k)) := HEc.out.put (HF6.out.mono fun k _ h => .inl h) fun k h => by
    have hs := HSZ.out
    have hs2 := HBW.out
    rcases h with h | h | h
    · have h : k = wa.heap.size := h
      omega
    · exact (HM.out k h).1.1
    · have := (HAw.out k h).1
      omega
  refine (eqInts_any Aw (some ⟨wc.heap.size, 0, none⟩) [1, 0] [1, 0] cw 2 _ (HW6.out.frm' f7) (Rd.laidI_at w6 3 [1, 0] wc.heap.size hsz6) (Len.of (by decide)) (Len.of (by decide))).mono ?_
  rintro e w7 ⟨rfl, hf7⟩
  rw [show eql [(1 : Int), 0] [1, 0] = true from rfl]
  have b7 := (HB6.out.alloc (.cells #[.int .i64 1, .int .i64 0] 3)).frm' hf7
  have HG : Hid (∃ g, g = w6.heap.size) := ⟨_, rfl⟩
  have F67 := f7.trans' hf7
  have hgl : wa.heap.size < w7.heap.size := b7.lt
  have hX7 := HX6.out.frm' F67
  obtain ⟨N, hNM, hNg, hN7, hE7⟩ : ∃ N : Nat → Prop, (∀ k, M k → N k) ∧ N wa.heap.size ∧ (∀ k, N k → k < w7.heap.size) ∧ Ent0 w1 w7 b _ (closed (taken (taken (opened (es0 2 2) 2 9 til 2) 1 [3, 4]) 0 [5, 6])) N :=
    ⟨fun k => (isB wa.heap.size k ∨ M k ∨ aB Aw k) ∨ isB wa.heap.size k, fun k h => .inl (.inr (.inl h)), .inr rfl, fun k h => by
    have hs := HF6.out.size
    rcases h with (h | h | h) | h
    · have h : k = wa.heap.size := h; omega
    · have := (HM.out k h).2; have := F67.size; omega
    · have := (HAw.out k h).2; have := F67.size; omega
    · have h : k = wa.heap.size := h; omega, (HE6.out.more (M := fun k => (isB wa.heap.size k ∨ M k ∨ aB Aw k) ∨ isB wa.heap.size k) fun k h => by
    rcases h with h | h
    · exact .inl h
    · exact .inl (.inl h)).frm F67⟩
  have HE7 := Lib.hid hE7
  have HX7 := Lib.hid hX7
  have HB7 : Hid (Blk w7 wa.heap.size 39 #[.int .i64 2, .int .u64 9, .slice Aw 2 cw, .slice Ax 2 cx]) := b7
  have HNM := Lib.hid hNM
  have HNg := Lib.hid hNg
  have HN7 := Lib.hid hN7
  clear b7 F67 hgl HE6 HX6 HW6 hX7 hNM hNg hN7 hE7 f7 hf7 HAw HM HB6 HF6 HWc HXc HEc HBW HSZ
  try dsimp only
  go_wp2_with fail
  refine (tickNo0 HE7.out til (.inl (show (2 : Int) ≠ 1 by decide))).mono ?_
  rintro e w8 ⟨rfl, hE, hf8⟩
  have HE8 := Lib.hid (hE.frm ((Frm.refl _ _).alloc (.cells #[.int .i64 0, .int .u64 0, .slice none 0 0, .slice none 0 0] 39)))
  have HF8 := Lib.hid (hf8.alloc (.cells #[.int .i64 0, .int .u64 0, .slice none 0 0, .slice none 0 0] 39))
  clear hE hf8 HE7
  try dsimp only
  go_wp2_with fail
  refine (closeNo0 HE8.out (show (2 : Int) ≠ 1 by decide)).mono ?_
  rintro e w9 ⟨rfl, hE, hf9⟩
  have HE9 := Lib.hid (hE.frm ((Frm.refl _ _).alloc (.cells #[.int .i64 0, .int .u64 0, .slice none 0 0, .slice none 0 0] 39)))
  have HF9 := Lib.hid (HF8.out.trans' (hf9.alloc (.cells #[.int .i64 0, .int .u64 0, .slice none 0 0, .slice none 0 0] 39)))
  clear hE hf9 HE8 HF8
  try dsimp only
  go_wp2_with fail
  have hs9 := HF9.out.size
  refine (sub0 HE9.out (fun k h => Nat.lt_of_lt_of_le (HN7.out k h) hs9) 0 [5, 6] (some ⟨w9.heap.size + 1, 0, none⟩) 2 ((Frm.refl _ _).alloc _) (Rd.laid_at (w9.alloc (.cells #[.int .i64 0, .int .u64 0, .slice none 0 0, .slice none 0 0] 39)) 5 [5, 6] _ (by simp)) (fun k ⟨a, ha, hk⟩ => by cases ha; simp at hk; simp; omega) (Len.of (by decide))).mono ?_
  rintro e wA ⟨rfl, hE, hfA⟩
  rw [show subErr (closed (taken (taken (opened (es0 2 2) 2 9 til 2) 1 [3, 4]) 0 [5, 6])) 0 [5, 6] = 290 from rfl]
  have HEA : Hid (Ent0 w1 wA b _ (closed (taken (taken (opened (es0 2 2) 2 9 til 2) 1 [3, 4]) 0 [5, 6])) N) := hE
  have BA := (HB7.out.frm' (HF9.out.alloc (.cells #[.int .u8 5, .int .u8 6] 5))).frm hfA fun h => h.2 HNg.out
  have HXA := Lib.hid ((HX7.out.frm' (HF9.out.alloc (.cells #[.int .u8 5, .int .u8 6] 5))).frm hfA fun k hk h => h.2 (HNM.out k hk))
  have HSA := Lib.hid (Nat.le_trans (Nat.le_trans hs9 ((Frm.refl noB _).alloc (.cells #[.int .u8 5, .int .u8 6] 5)).size) hfA.size)
  have k0 := BA.cell 0
  have k1 := BA.cell 1
  simp at k0 k1
  have HBA := Lib.hid BA
  clear hE hfA BA HE9 hs9
  try dsimp only
  go_wp2_with fail
  refine (open0 HEA.out 1 9 0).mono ?_
  rintro e wB ⟨rfl, hE, hfB⟩
  have e0 : openErr (closed (taken (taken (opened (es0 2 2) 2 9 til 2) 1 [3, 4]) 0 [5, 6])) 1 9 = 0 := by simp [openErr, closed, HR.out]
  rw [e0] at hE ⊢
  have HEB : Hid (Ent0 w1 wB b _ (opened (closed (taken (taken (opened (es0 2 2) 2 9 til 2) 1 [3, 4]) 0 [5, 6])) 1 9 0 2) N) := hE
  have BB := HBA.out.frm hfB fun h => h.2 HNg.out
  have HXB := Lib.hid (HXA.out.frm hfB fun k hk h => h.2 (HNM.out k hk))
  have HSB := Lib.hid (Nat.le_trans HSA.out hfB.size)
  have k3 := BB.cell 3
  simp at k3
  clear hE e0 hfB BB HEA HBA HXA k0 k1
  try dsimp only
  go_wp2_with fail
  refine (copyRows_s Ax [[3, 4], [5, 6]] cx _ HXB.out (by decide) (len_small (by decide))).mono ?_
  rintro e wC ⟨AC, cC, rfl, hRC, hfC⟩
  have HRC := Lib.hid hRC
  have HFC := Lib.hid hfC
  clear hRC hfC k3
  try dsimp only
  go_wp2_with fail
  refine (ans0 HEB.out (fun k h => Nat.lt_of_lt_of_le (HN7.out k h) HSB.out) AC [[3, 4], [5, 6]] cC HFC.out HRC.out (fun k h => .inr (.inl h.1)) (len_small (by decide))).mono ?_
  rintro e wD ⟨rfl, hE, _⟩
  have HED : Hid (Ent0 w1 wD b _ (opened (closed (taken (taken (opened (es0 2 2) 2 9 til 2) 1 [3, 4]) 0 [5, 6])) 1 9 0 2) N) := hE
  rw [show ansErr (opened (closed (taken (taken (opened (es0 2 2) 2 9 til 2) 1 [3, 4]) 0 [5, 6])) 1 9 0 2) ([[3, 4], [5, 6]] : List (List UInt8)).length = 251 from rfl]
  clear hE HEB
  try dsimp only
  go_wp2_with fail
  refine (close0 HED.out rfl).mono ?_
  rintro e wE ⟨Aw2, cw2, Ax2, cx2, M2, rfl, _, _, _, _, hE, _⟩
  have HEE : Hid (Ent0 w1 (wE.alloc (.cells #[.int .i64 1, .int .u64 9, .slice Aw2 0 cw2, .slice Ax2 0 cx2] 39)) b _ (closed (opened (closed (taken (taken (opened (es0 2 2) 2 9 til 2) 1 [3, 4]) 0 [5, 6])) 1 9 0 2)) (isB wE.heap.size)) :=
    (hE.more (M := isB wE.heap.size) fun k h => .inr (.inl (by have h : k = wE.heap.size := h; omega))).frm ((Frm.refl _ _).alloc _)
  have HBE := Lib.hid (Blk.new wE 39 #[.int .i64 1, .int .u64 9, .slice Aw2 0 cw2, .slice Ax2 0 cx2])
  clear hE HED
  try dsimp only
  go_wp2_with fail
  refine (col0 HEE.out 1 ⟨by decide, show (1 : Int) < 2 by decide⟩).mono ?_
  rintro e wF ⟨AF, cF, rfl, _, _, hE, hfF⟩
  have HEF := Lib.hid (hE.more (M := noB) fun k h => h.elim)
  have BF := HBE.out.frm hfF fun h => h.2 rfl
  have k2 := BF.cell 2
  have k3 := BF.cell 3
  simp at k2 k3
  clear hE hfF BF HEE HBE
  rw [show ((closed (opened (closed (taken (taken (opened (es0 2 2) 2 9 til 2) 1 [3, 4]) 0 [5, 6])) 1 9 0 2)).replies 1).isSome = false from rfl]
  try dsimp only
  go_wp2_with fail
  refine (ans0 HEF.out (fun k h => h.elim) none [] 0 (Frm.refl _ _) (laid_nil _ noB) (fun k h => h.elim) (by simp)).mono ?_
  rintro e wG ⟨rfl, hE, _⟩
  rw [show ansErr (collected (closed (opened (closed (taken (taken (opened (es0 2 2) 2 9 til 2) 1 [3, 4]) 0 [5, 6])) 1 9 0 2)) 1) ([] : List (List UInt8)).length = 0 from rfl]
  have HEG := Lib.hid hE.old
  clear hE k2 k3
  try dsimp only
  go_wp2_with fail
  go_ret
  exact ⟨rfl, HF0.out.trans' HEG.out⟩

set_option maxRecDepth 100000 in
set_option maxHeartbeats 4000000 in
theorem lateRA (til now : Int) (round : Int) (w : World) (hr : round ≠ 0) (ht : til ≤ now) :
    Calls Try.prog 6 #[.int .i64 til, .int .i64 now, .int .u64 round] w fun e w' => e = .returned (.bool true) ∧ Frm noB w w' := by
  have hrb : (round == 0) = false := by simpa using hr
  have HR := Lib.hid hr
  clear hr
  go_enter Try.func6, Try.ntmps6
  try dsimp only
  go_wp2_with fail
  refine (awake_any w).mono ?_
  rintro e w1 ⟨rfl, hf⟩
  have HF0 := Lib.hid hf
  clear hf
  try dsimp only
  go_wp2_with fail
  refine (new0 (.func 11) #[] 2 2 w1 (by decide)).mono ?_
  rintro e w2 ⟨b, rfl, hE, _⟩
  have HE := Lib.hid hE
  clear hE
  try dsimp only
  go_wp2_with fail
  refine (open0 HE.out 2 round til).mono ?_
  rintro e w3 ⟨rfl, hE, _⟩
  have e0 : openErr (es0 2 2) 2 round = 0 := by simp [openErr, es0, HR.out]
  rw [e0] at hE ⊢
  have HE3 : Hid (Ent0 w1 w3 b _ (opened (es0 2 2) 2 round til 2) noB) := hE
  clear hE e0 HE
  try dsimp only
  go_wp2_with fail
  refine (open0 HE3.out 2 round til).mono ?_
  rintro e w4 ⟨rfl, hE, _⟩
  have e0 : openErr (opened (es0 2 2) 2 round til 2) 2 round = 251 := by simp [openErr, opened, HR.out]
  rw [e0] at hE ⊢
  have HE4 : Hid (Ent0 w1 w4 b _ (opened (es0 2 2) 2 round til 2) noB) := hE
  clear hE e0 HE3
  try dsimp only
  go_wp2_with fail
  refine (sub0 HE4.out (fun _ h => h.elim) 1 [3, 4] (some ⟨w4.heap.size, 0, none⟩) 2 ((Frm.refl _ _).alloc _) (Rd.laid w4 5 [3, 4]) (fun k ⟨a, ha, hk⟩ => by cases ha; simp at hk; omega) (Len.of (by decide))).mono ?_
  rintro e w5 ⟨rfl, hE, _⟩
  have HE5 : Hid (Ent0 w1 w5 b _ (taken (opened (es0 2 2) 2 round til 2) 1 [3, 4]) noB) := hE
  rw [show subErr (opened (es0 2 2) 2 round til 2) 1 [3, 4] = 0 from rfl]
  clear hE HE4
  try dsimp only
  go_wp2_with fail
  refine (tick0 HE5.out now rfl ht).mono ?_
  rintro e w6 ⟨Aw, cw, Ax, cx, M, rfl, hW, hAw, hX, hM, hE, _⟩
  have HE6 : Hid (Ent0 w1 w6 b _ (closed (taken (opened (es0 2 2) 2 round til 2) 1 [3, 4])) (fun k => noB k ∨ M k ∨ aB Aw k)) := hE
  have HW6 : Hid (Rd w6 Aw ([1].map iv)) := hW
  have HX6 : Hid (RdRows w6 Ax [[3, 4]] M) := hX
  have HAw := Lib.hid hAw
  have HM := Lib.hid hM
  clear hE hW hX hAw hM HE5
  have hdt : (!decide (now < til)) = true := by simp; omega
  try dsimp only
  go_wp2_with fail
  have BV := Lib.hid (Blk.new w6 39 #[.int .i64 2, .int .u64 round, .slice Aw 1 cw, .slice Ax 1 cx])
  have f7 : Frm noB w6 ((w6.alloc (.cells #[.int .i64 2, .int .u64 round, .slice Aw 1 cw, .slice Ax 1 cx] 39)).alloc (.cells #[.int .i64 1] 3)) := ((Frm.refl _ _).alloc _).alloc _
  refine (eqInts_any Aw (some ⟨w6.heap.size + 1, 0, none⟩) [1] [1] cw 1 _ (HW6.out.frm' f7) (Rd.laidI_at (w6.alloc (.cells #[.int .i64 2, .int .u64 round, .slice Aw 1 cw, .slice Ax 1 cx] 39)) 3 [1] _ (by simp)) (Len.of (by decide)) (Len.of (by decide))).mono ?_
  rintro e w7 ⟨rfl, hf7⟩
  rw [show eql [(1 : Int)] [1] = true from rfl]
  have b7 := (BV.out.alloc (.cells #[.int .i64 1] 3)).frm' hf7
  have HG : Hid (∃ g, g = w6.heap.size) := ⟨_, rfl⟩
  have F67 := f7.trans' hf7
  have hgl : w6.heap.size < w7.heap.size := b7.lt
  have hX7 := HX6.out.frm' F67
  obtain ⟨N, hNM, hNg, hN7, hE7⟩ : ∃ N : Nat → Prop, (∀ k, M k → N k) ∧ N w6.heap.size ∧ (∀ k, N k → k < w7.heap.size) ∧ Ent0 w1 w7 b _ (closed (taken (opened (es0 2 2) 2 round til 2) 1 [3, 4])) N :=
    ⟨fun k => (noB k ∨ M k ∨ aB Aw k) ∨ isB w6.heap.size k, fun k h => .inl (.inr (.inl h)), .inr rfl, fun k h => by
    rcases h with (h | h | h) | h
    · exact h.elim
    · have := (HM.out k h).2; have := F67.size; omega
    · have := (HAw.out k h).2; have := F67.size; omega
    · have h : k = w6.heap.size := h; omega, (HE6.out.more (M := fun k => (noB k ∨ M k ∨ aB Aw k) ∨ isB w6.heap.size k) fun k h => by
    rcases h with h | h
    · exact .inl h
    · right; left; have h : k = w6.heap.size := h; omega).frm F67⟩
  have HE7 := Lib.hid hE7
  have HX7 := Lib.hid hX7
  have HB7 : Hid (Blk w7 w6.heap.size 39 #[.int .i64 2, .int .u64 round, .slice Aw 1 cw, .slice Ax 1 cx]) := b7
  have HNM := Lib.hid hNM
  have HNg := Lib.hid hNg
  have HN7 := Lib.hid hN7
  clear b7 F67 hgl HE6 HX6 HW6 hX7 hNM hNg hN7 hE7 BV f7 hf7 HAw HM
  try dsimp only
  go_wp2_with fail
  refine (tickNo0 HE7.out til (.inl (show (2 : Int) ≠ 1 by decide))).mono ?_
  rintro e w8 ⟨rfl, hE, hf8⟩
  have HE8 := Lib.hid (hE.frm ((Frm.refl _ _).alloc (.cells #[.int .i64 0, .int .u64 0, .slice none 0 0, .slice none 0 0] 39)))
  have HF8 := Lib.hid (hf8.alloc (.cells #[.int .i64 0, .int .u64 0, .slice none 0 0, .slice none 0 0] 39))
  clear hE hf8 HE7
  try dsimp only
  go_wp2_with fail
  refine (closeNo0 HE8.out (show (2 : Int) ≠ 1 by decide)).mono ?_
  rintro e w9 ⟨rfl, hE, hf9⟩
  have HE9 := Lib.hid (hE.frm ((Frm.refl _ _).alloc (.cells #[.int .i64 0, .int .u64 0, .slice none 0 0, .slice none 0 0] 39)))
  have HF9 := Lib.hid (HF8.out.trans' (hf9.alloc (.cells #[.int .i64 0, .int .u64 0, .slice none 0 0, .slice none 0 0] 39)))
  clear hE hf9 HE8 HF8
  try dsimp only
  go_wp2_with fail
  have hs9 := HF9.out.size
  refine (sub0 HE9.out (fun k h => Nat.lt_of_lt_of_le (HN7.out k h) hs9) 0 [5, 6] (some ⟨w9.heap.size + 1, 0, none⟩) 2 ((Frm.refl _ _).alloc _) (Rd.laid_at (w9.alloc (.cells #[.int .i64 0, .int .u64 0, .slice none 0 0, .slice none 0 0] 39)) 5 [5, 6] _ (by simp)) (fun k ⟨a, ha, hk⟩ => by cases ha; simp at hk; simp; omega) (Len.of (by decide))).mono ?_
  rintro e wA ⟨rfl, hE, hfA⟩
  rw [show subErr (closed (taken (opened (es0 2 2) 2 round til 2) 1 [3, 4])) 0 [5, 6] = 290 from rfl]
  have HEA : Hid (Ent0 w1 wA b _ (closed (taken (opened (es0 2 2) 2 round til 2) 1 [3, 4])) N) := hE
  have BA := (HB7.out.frm' (HF9.out.alloc (.cells #[.int .u8 5, .int .u8 6] 5))).frm hfA fun h => h.2 HNg.out
  have HXA := Lib.hid ((HX7.out.frm' (HF9.out.alloc (.cells #[.int .u8 5, .int .u8 6] 5))).frm hfA fun k hk h => h.2 (HNM.out k hk))
  have HSA := Lib.hid (Nat.le_trans (Nat.le_trans hs9 ((Frm.refl noB _).alloc (.cells #[.int .u8 5, .int .u8 6] 5)).size) hfA.size)
  have k0 := BA.cell 0
  have k1 := BA.cell 1
  simp at k0 k1
  have HBA := Lib.hid BA
  clear hE hfA BA HE9 hs9
  try dsimp only
  go_wp2_with fail
  refine (open0 HEA.out 1 round 0).mono ?_
  rintro e wB ⟨rfl, hE, hfB⟩
  have e0 : openErr (closed (taken (opened (es0 2 2) 2 round til 2) 1 [3, 4])) 1 round = 0 := by simp [openErr, closed, HR.out]
  rw [e0] at hE ⊢
  have HEB : Hid (Ent0 w1 wB b _ (opened (closed (taken (opened (es0 2 2) 2 round til 2) 1 [3, 4])) 1 round 0 2) N) := hE
  have BB := HBA.out.frm hfB fun h => h.2 HNg.out
  have HXB := Lib.hid (HXA.out.frm hfB fun k hk h => h.2 (HNM.out k hk))
  have HSB := Lib.hid (Nat.le_trans HSA.out hfB.size)
  have k3 := BB.cell 3
  simp at k3
  clear hE e0 hfB BB HEA HBA HXA k0 k1
  try dsimp only
  go_wp2_with fail
  refine (copyRows_s Ax [[3, 4]] cx _ HXB.out (by decide) (len_small (by decide))).mono ?_
  rintro e wC ⟨AC, cC, rfl, hRC, hfC⟩
  have HRC := Lib.hid hRC
  have HFC := Lib.hid hfC
  clear hRC hfC k3
  try dsimp only
  go_wp2_with fail
  refine (ans0 HEB.out (fun k h => Nat.lt_of_lt_of_le (HN7.out k h) HSB.out) AC [[3, 4]] cC HFC.out HRC.out (fun k h => .inr (.inl h.1)) (len_small (by decide))).mono ?_
  rintro e wD ⟨rfl, hE, _⟩
  have HED : Hid (Ent0 w1 wD b _ (opened (closed (taken (opened (es0 2 2) 2 round til 2) 1 [3, 4])) 1 round 0 2) N) := hE
  rw [show ansErr (opened (closed (taken (opened (es0 2 2) 2 round til 2) 1 [3, 4])) 1 round 0 2) ([[3, 4]] : List (List UInt8)).length = 251 from rfl]
  clear hE HEB
  try dsimp only
  go_wp2_with fail
  refine (close0 HED.out rfl).mono ?_
  rintro e wE ⟨Aw2, cw2, Ax2, cx2, M2, rfl, _, _, _, _, hE, _⟩
  have HEE : Hid (Ent0 w1 (wE.alloc (.cells #[.int .i64 1, .int .u64 round, .slice Aw2 0 cw2, .slice Ax2 0 cx2] 39)) b _ (closed (opened (closed (taken (opened (es0 2 2) 2 round til 2) 1 [3, 4])) 1 round 0 2)) (isB wE.heap.size)) :=
    (hE.more (M := isB wE.heap.size) fun k h => .inr (.inl (by have h : k = wE.heap.size := h; omega))).frm ((Frm.refl _ _).alloc _)
  have HBE := Lib.hid (Blk.new wE 39 #[.int .i64 1, .int .u64 round, .slice Aw2 0 cw2, .slice Ax2 0 cx2])
  clear hE HED
  try dsimp only
  go_wp2_with fail
  refine (col0 HEE.out 1 ⟨by decide, show (1 : Int) < 2 by decide⟩).mono ?_
  rintro e wF ⟨AF, cF, rfl, _, _, hE, hfF⟩
  have HEF := Lib.hid (hE.more (M := noB) fun k h => h.elim)
  have BF := HBE.out.frm hfF fun h => h.2 rfl
  have k2 := BF.cell 2
  have k3 := BF.cell 3
  simp at k2 k3
  clear hE hfF BF HEE HBE
  rw [show ((closed (opened (closed (taken (opened (es0 2 2) 2 round til 2) 1 [3, 4])) 1 round 0 2)).replies 1).isSome = false from rfl]
  try dsimp only
  go_wp2_with fail
  refine (ans0 HEF.out (fun k h => h.elim) none [] 0 (Frm.refl _ _) (laid_nil _ noB) (fun k h => h.elim) (by simp)).mono ?_
  rintro e wG ⟨rfl, hE, _⟩
  rw [show ansErr (collected (closed (opened (closed (taken (opened (es0 2 2) 2 round til 2) 1 [3, 4])) 1 round 0 2)) 1) ([] : List (List UInt8)).length = 0 from rfl]
  have HEG := Lib.hid hE.old
  clear hE k2 k3
  try dsimp only
  go_wp2_with fail
  go_ret
  exact ⟨rfl, HF0.out.trans' HEG.out⟩

set_option maxRecDepth 100000 in
set_option maxHeartbeats 4000000 in
theorem lateRB (til now : Int) (round : Int) (w : World) (hr : round ≠ 0) (ht : now < til) :
    Calls Try.prog 6 #[.int .i64 til, .int .i64 now, .int .u64 round] w fun e w' => e = .returned (.bool true) ∧ Frm noB w w' := by
  have hrb : (round == 0) = false := by simpa using hr
  have HR := Lib.hid hr
  clear hr
  go_enter Try.func6, Try.ntmps6
  try dsimp only
  go_wp2_with fail
  refine (awake_any w).mono ?_
  rintro e w1 ⟨rfl, hf⟩
  have HF0 := Lib.hid hf
  clear hf
  try dsimp only
  go_wp2_with fail
  refine (new0 (.func 11) #[] 2 2 w1 (by decide)).mono ?_
  rintro e w2 ⟨b, rfl, hE, _⟩
  have HE := Lib.hid hE
  clear hE
  try dsimp only
  go_wp2_with fail
  refine (open0 HE.out 2 round til).mono ?_
  rintro e w3 ⟨rfl, hE, _⟩
  have e0 : openErr (es0 2 2) 2 round = 0 := by simp [openErr, es0, HR.out]
  rw [e0] at hE ⊢
  have HE3 : Hid (Ent0 w1 w3 b _ (opened (es0 2 2) 2 round til 2) noB) := hE
  clear hE e0 HE
  try dsimp only
  go_wp2_with fail
  refine (open0 HE3.out 2 round til).mono ?_
  rintro e w4 ⟨rfl, hE, _⟩
  have e0 : openErr (opened (es0 2 2) 2 round til 2) 2 round = 251 := by simp [openErr, opened, HR.out]
  rw [e0] at hE ⊢
  have HE4 : Hid (Ent0 w1 w4 b _ (opened (es0 2 2) 2 round til 2) noB) := hE
  clear hE e0 HE3
  try dsimp only
  go_wp2_with fail
  refine (sub0 HE4.out (fun _ h => h.elim) 1 [3, 4] (some ⟨w4.heap.size, 0, none⟩) 2 ((Frm.refl _ _).alloc _) (Rd.laid w4 5 [3, 4]) (fun k ⟨a, ha, hk⟩ => by cases ha; simp at hk; omega) (Len.of (by decide))).mono ?_
  rintro e w5 ⟨rfl, hE, _⟩
  have HE5 : Hid (Ent0 w1 w5 b _ (taken (opened (es0 2 2) 2 round til 2) 1 [3, 4]) noB) := hE
  rw [show subErr (opened (es0 2 2) 2 round til 2) 1 [3, 4] = 0 from rfl]
  clear hE HE4
  try dsimp only
  go_wp2_with fail
  refine (tickNo0 HE5.out now (.inr ht)).mono ?_
  rintro e wa ⟨rfl, hE, _⟩
  have HEa := Lib.hid ((hE.more (M := isB wa.heap.size) fun k h => .inr (.inl (by have h : k = wa.heap.size := h; omega))).frm ((Frm.refl _ _).alloc (.cells #[.int .i64 0, .int .u64 0, .slice none 0 0, .slice none 0 0] 39)))
  have BZ := Lib.hid (Blk.new wa 39 #[.int .i64 0, .int .u64 0, .slice none 0 0, .slice none 0 0])
  have hsza := hE.size
  have HSZ := Lib.hid hsza
  clear hE HE5 hsza
  have hdt : (!decide (now < til)) = false := by simp; omega
  try dsimp only
  go_wp2_with fail
  refine (sub0 HEa.out (fun k h => by have h : k = wa.heap.size := h; simp; omega) 0 [5, 6] (some ⟨wa.heap.size + 1, 0, none⟩) 2 ((Frm.refl _ _).alloc _) (Rd.laid_at (wa.alloc (.cells #[.int .i64 0, .int .u64 0, .slice none 0 0, .slice none 0 0] 39)) 5 [5, 6] _ (by simp)) (fun k ⟨a, ha, hk⟩ => by cases ha; simp at hk; simp; omega) (Len.of (by decide))).mono ?_
  rintro e wb ⟨rfl, hE, hfb⟩
  rw [show subErr (taken (opened (es0 2 2) 2 round til 2) 1 [3, 4]) 0 [5, 6] = 0 from rfl]
  have HEb : Hid (Ent0 w1 wb b _ (taken (taken (opened (es0 2 2) 2 round til 2) 1 [3, 4]) 0 [5, 6]) (isB wa.heap.size)) := hE
  have BZb := Lib.hid ((BZ.out.alloc (.cells #[.int .u8 5, .int .u8 6] 5)).frm hfb fun h => h.2 rfl)
  clear hE hfb HEa BZ
  try dsimp only
  go_wp2_with fail
  refine (tick0 HEb.out til rfl (Int.le_refl _)).mono ?_
  rintro e wc ⟨Aw, cw, Ax, cx, M, rfl, hW, hAw, hX, hM, hE, hfc⟩
  have Bc := BZb.out.frm hfc fun h => h.2 rfl
  have g0 := Bc.cell 0
  have g1 := Bc.cell 1
  have g2 := Bc.cell 2
  have g3 := Bc.cell 3
  have y0 := Bc.frozen 0
  have y1 := Bc.frozen 1
  have y2 := Bc.frozen 2
  have y3 := Bc.frozen 3
  simp at g0 g1 g2 g3
  have B6 := (((Bc.set_ 0 (.int .i64 2)).set_ 1 (.int .u64 round)).set_ 2 (.slice Aw 2 cw)).set_ 3 (.slice Ax 2 cx)
  simp only [List.setIfInBounds_toArray, List.set_cons_succ, List.set_cons_zero] at B6
  have F6 := ((((Frm.refl (isB wa.heap.size) wc).setCell (a := ⟨wa.heap.size, 0, none⟩) (.inl (show isB wa.heap.size wa.heap.size from rfl)) (.int .i64 2)).setCell (a := ⟨wa.heap.size, 1, none⟩) (.inl (show isB wa.heap.size wa.heap.size from rfl)) (.int .u64 round)).setCell (a := ⟨wa.heap.size, 2, none⟩) (.inl (show isB wa.heap.size wa.heap.size from rfl)) (.slice Aw 2 cw)).setCell (a := ⟨wa.heap.size, 3, none⟩) (.inl (show isB wa.heap.size wa.heap.size from rfl)) (.slice Ax 2 cx)
  have hwa : wa.heap.size < wb.heap.size := BZb.out.lt
  have HB6 := Lib.hid B6
  have HF6 := Lib.hid F6
  have HAw := Lib.hid hAw
  have HM := Lib.hid fun k hk => (hM k hk)
  have HWc : Hid (Rd wc Aw ([1, 0].map iv)) := hW
  have HXc : Hid (RdRows wc Ax [[3, 4], [5, 6]] M) := hX
  have HEc : Hid (Ent0 w1 wc b _ (closed (taken (taken (opened (es0 2 2) 2 round til 2) 1 [3, 4]) 0 [5, 6])) (fun k => isB wa.heap.size k ∨ M k ∨ aB Aw k)) := hE
  have HBW := Lib.hid hwa
  clear hE hW hX hAw hM hfc Bc B6 F6 hwa HEb BZb
  rw [show (taken (taken (opened (es0 2 2) 2 round til 2) 1 [3, 4]) 0 [5, 6]).who.length = 2 from rfl, show (taken (taken (opened (es0 2 2) 2 round til 2) 1 [3, 4]) 0 [5, 6]).boxes.length = 2 from rfl, show (taken (taken (opened (es0 2 2) 2 round til 2) 1 [3, 4]) 0 [5, 6]).kind = 2 from rfl, show (taken (taken (opened (es0 2 2) 2 round til 2) 1 [3, 4]) 0 [5, 6]).round = round from rfl]
  try dsimp only
  go_wp2_with fail
  have hsz6 : wc.heap.size = ((((wc.setCell ⟨wa.heap.size, 0, none⟩ (.int .i64 2)).setCell ⟨wa.heap.size, 1, none⟩ (.int .u64 round)).setCell ⟨wa.heap.size, 2, none⟩ (.slice Aw 2 cw)).setCell ⟨wa.heap.size, 3, none⟩ (.slice Ax 2 cx)).heap.size := by simp
  generalize ((((wc.setCell ⟨wa.heap.size, 0, none⟩ (.int .i64 2)).setCell ⟨wa.heap.size, 1, none⟩ (.int .u64 round)).setCell ⟨wa.heap.size, 2, none⟩ (.slice Aw 2 cw)).setCell ⟨wa.heap.size, 3, none⟩ (.slice Ax 2 cx)) = w6 at *
  have f7 : Frm noB w6 (w6.alloc (.cells #[.int .i64 1, .int .i64 0] 3)) := (Frm.refl _ _).alloc _
  have HW6 := Lib.hid (HWc.out.frm HF6.out fun k hk h => by have := (HAw.out k hk).1; have := HBW.out; have h : k = wa.heap.size := h; omega)
  have HX6 := Lib.hid (HXc.out.frm HF6.out fun k hk h => (HM.out k hk).1.2 h)
  have HE6 : Hid (Ent0 w1 w6 b _ (closed (taken (taken (opened (es0 2 2) 2 round til 2) 1 [3, 4]) 0 [5, 6])) (fun k => isB wa.heap.size k ∨ M k ∨ aB Aw k)) := HEc.out.put (HF6.out.mono fun k _ h => .inl h) fun k h => by
    have hs := HSZ.out
    have hs2 := HBW.out
    rcases h with h | h | h
    · have h : k = wa.heap.size := h
      omega
    · exact (HM.out k h).1.1
    · have := (HAw.out k h).1
      omega
  refine (eqInts_any Aw (some ⟨wc.heap.size, 0, none⟩) [1, 0] [1, 0] cw 2 _ (HW6.out.frm' f7) (Rd.laidI_at w6 3 [1, 0] wc.heap.size hsz6) (Len.of (by decide)) (Len.of (by decide))).mono ?_
  rintro e w7 ⟨rfl, hf7⟩
  rw [show eql [(1 : Int), 0] [1, 0] = true from rfl]
  have b7 := (HB6.out.alloc (.cells #[.int .i64 1, .int .i64 0] 3)).frm' hf7
  have HG : Hid (∃ g, g = w6.heap.size) := ⟨_, rfl⟩
  have F67 := f7.trans' hf7
  have hgl : wa.heap.size < w7.heap.size := b7.lt
  have hX7 := HX6.out.frm' F67
  obtain ⟨N, hNM, hNg, hN7, hE7⟩ : ∃ N : Nat → Prop, (∀ k, M k → N k) ∧ N wa.heap.size ∧ (∀ k, N k → k < w7.heap.size) ∧ Ent0 w1 w7 b _ (closed (taken (taken (opened (es0 2 2) 2 round til 2) 1 [3, 4]) 0 [5, 6])) N :=
    ⟨fun k => (isB wa.heap.size k ∨ M k ∨ aB Aw k) ∨ isB wa.heap.size k, fun k h => .inl (.inr (.inl h)), .inr rfl, fun k h => by
    have hs := HF6.out.size
    rcases h with (h | h | h) | h
    · have h : k = wa.heap.size := h; omega
    · have := (HM.out k h).2; have := F67.size; omega
    · have := (HAw.out k h).2; have := F67.size; omega
    · have h : k = wa.heap.size := h; omega, (HE6.out.more (M := fun k => (isB wa.heap.size k ∨ M k ∨ aB Aw k) ∨ isB wa.heap.size k) fun k h => by
    rcases h with h | h
    · exact .inl h
    · exact .inl (.inl h)).frm F67⟩
  have HE7 := Lib.hid hE7
  have HX7 := Lib.hid hX7
  have HB7 : Hid (Blk w7 wa.heap.size 39 #[.int .i64 2, .int .u64 round, .slice Aw 2 cw, .slice Ax 2 cx]) := b7
  have HNM := Lib.hid hNM
  have HNg := Lib.hid hNg
  have HN7 := Lib.hid hN7
  clear b7 F67 hgl HE6 HX6 HW6 hX7 hNM hNg hN7 hE7 f7 hf7 HAw HM HB6 HF6 HWc HXc HEc HBW HSZ
  try dsimp only
  go_wp2_with fail
  refine (tickNo0 HE7.out til (.inl (show (2 : Int) ≠ 1 by decide))).mono ?_
  rintro e w8 ⟨rfl, hE, hf8⟩
  have HE8 := Lib.hid (hE.frm ((Frm.refl _ _).alloc (.cells #[.int .i64 0, .int .u64 0, .slice none 0 0, .slice none 0 0] 39)))
  have HF8 := Lib.hid (hf8.alloc (.cells #[.int .i64 0, .int .u64 0, .slice none 0 0, .slice none 0 0] 39))
  clear hE hf8 HE7
  try dsimp only
  go_wp2_with fail
  refine (closeNo0 HE8.out (show (2 : Int) ≠ 1 by decide)).mono ?_
  rintro e w9 ⟨rfl, hE, hf9⟩
  have HE9 := Lib.hid (hE.frm ((Frm.refl _ _).alloc (.cells #[.int .i64 0, .int .u64 0, .slice none 0 0, .slice none 0 0] 39)))
  have HF9 := Lib.hid (HF8.out.trans' (hf9.alloc (.cells #[.int .i64 0, .int .u64 0, .slice none 0 0, .slice none 0 0] 39)))
  clear hE hf9 HE8 HF8
  try dsimp only
  go_wp2_with fail
  have hs9 := HF9.out.size
  refine (sub0 HE9.out (fun k h => Nat.lt_of_lt_of_le (HN7.out k h) hs9) 0 [5, 6] (some ⟨w9.heap.size + 1, 0, none⟩) 2 ((Frm.refl _ _).alloc _) (Rd.laid_at (w9.alloc (.cells #[.int .i64 0, .int .u64 0, .slice none 0 0, .slice none 0 0] 39)) 5 [5, 6] _ (by simp)) (fun k ⟨a, ha, hk⟩ => by cases ha; simp at hk; simp; omega) (Len.of (by decide))).mono ?_
  rintro e wA ⟨rfl, hE, hfA⟩
  rw [show subErr (closed (taken (taken (opened (es0 2 2) 2 round til 2) 1 [3, 4]) 0 [5, 6])) 0 [5, 6] = 290 from rfl]
  have HEA : Hid (Ent0 w1 wA b _ (closed (taken (taken (opened (es0 2 2) 2 round til 2) 1 [3, 4]) 0 [5, 6])) N) := hE
  have BA := (HB7.out.frm' (HF9.out.alloc (.cells #[.int .u8 5, .int .u8 6] 5))).frm hfA fun h => h.2 HNg.out
  have HXA := Lib.hid ((HX7.out.frm' (HF9.out.alloc (.cells #[.int .u8 5, .int .u8 6] 5))).frm hfA fun k hk h => h.2 (HNM.out k hk))
  have HSA := Lib.hid (Nat.le_trans (Nat.le_trans hs9 ((Frm.refl noB _).alloc (.cells #[.int .u8 5, .int .u8 6] 5)).size) hfA.size)
  have k0 := BA.cell 0
  have k1 := BA.cell 1
  simp at k0 k1
  have HBA := Lib.hid BA
  clear hE hfA BA HE9 hs9
  try dsimp only
  go_wp2_with fail
  refine (open0 HEA.out 1 round 0).mono ?_
  rintro e wB ⟨rfl, hE, hfB⟩
  have e0 : openErr (closed (taken (taken (opened (es0 2 2) 2 round til 2) 1 [3, 4]) 0 [5, 6])) 1 round = 0 := by simp [openErr, closed, HR.out]
  rw [e0] at hE ⊢
  have HEB : Hid (Ent0 w1 wB b _ (opened (closed (taken (taken (opened (es0 2 2) 2 round til 2) 1 [3, 4]) 0 [5, 6])) 1 round 0 2) N) := hE
  have BB := HBA.out.frm hfB fun h => h.2 HNg.out
  have HXB := Lib.hid (HXA.out.frm hfB fun k hk h => h.2 (HNM.out k hk))
  have HSB := Lib.hid (Nat.le_trans HSA.out hfB.size)
  have k3 := BB.cell 3
  simp at k3
  clear hE e0 hfB BB HEA HBA HXA k0 k1
  try dsimp only
  go_wp2_with fail
  refine (copyRows_s Ax [[3, 4], [5, 6]] cx _ HXB.out (by decide) (len_small (by decide))).mono ?_
  rintro e wC ⟨AC, cC, rfl, hRC, hfC⟩
  have HRC := Lib.hid hRC
  have HFC := Lib.hid hfC
  clear hRC hfC k3
  try dsimp only
  go_wp2_with fail
  refine (ans0 HEB.out (fun k h => Nat.lt_of_lt_of_le (HN7.out k h) HSB.out) AC [[3, 4], [5, 6]] cC HFC.out HRC.out (fun k h => .inr (.inl h.1)) (len_small (by decide))).mono ?_
  rintro e wD ⟨rfl, hE, _⟩
  have HED : Hid (Ent0 w1 wD b _ (opened (closed (taken (taken (opened (es0 2 2) 2 round til 2) 1 [3, 4]) 0 [5, 6])) 1 round 0 2) N) := hE
  rw [show ansErr (opened (closed (taken (taken (opened (es0 2 2) 2 round til 2) 1 [3, 4]) 0 [5, 6])) 1 round 0 2) ([[3, 4], [5, 6]] : List (List UInt8)).length = 251 from rfl]
  clear hE HEB
  try dsimp only
  go_wp2_with fail
  refine (close0 HED.out rfl).mono ?_
  rintro e wE ⟨Aw2, cw2, Ax2, cx2, M2, rfl, _, _, _, _, hE, _⟩
  have HEE : Hid (Ent0 w1 (wE.alloc (.cells #[.int .i64 1, .int .u64 round, .slice Aw2 0 cw2, .slice Ax2 0 cx2] 39)) b _ (closed (opened (closed (taken (taken (opened (es0 2 2) 2 round til 2) 1 [3, 4]) 0 [5, 6])) 1 round 0 2)) (isB wE.heap.size)) :=
    (hE.more (M := isB wE.heap.size) fun k h => .inr (.inl (by have h : k = wE.heap.size := h; omega))).frm ((Frm.refl _ _).alloc _)
  have HBE := Lib.hid (Blk.new wE 39 #[.int .i64 1, .int .u64 round, .slice Aw2 0 cw2, .slice Ax2 0 cx2])
  clear hE HED
  try dsimp only
  go_wp2_with fail
  refine (col0 HEE.out 1 ⟨by decide, show (1 : Int) < 2 by decide⟩).mono ?_
  rintro e wF ⟨AF, cF, rfl, _, _, hE, hfF⟩
  have HEF := Lib.hid (hE.more (M := noB) fun k h => h.elim)
  have BF := HBE.out.frm hfF fun h => h.2 rfl
  have k2 := BF.cell 2
  have k3 := BF.cell 3
  simp at k2 k3
  clear hE hfF BF HEE HBE
  rw [show ((closed (opened (closed (taken (taken (opened (es0 2 2) 2 round til 2) 1 [3, 4]) 0 [5, 6])) 1 round 0 2)).replies 1).isSome = false from rfl]
  try dsimp only
  go_wp2_with fail
  refine (ans0 HEF.out (fun k h => h.elim) none [] 0 (Frm.refl _ _) (laid_nil _ noB) (fun k h => h.elim) (by simp)).mono ?_
  rintro e wG ⟨rfl, hE, _⟩
  rw [show ansErr (collected (closed (opened (closed (taken (taken (opened (es0 2 2) 2 round til 2) 1 [3, 4]) 0 [5, 6])) 1 round 0 2)) 1) ([] : List (List UInt8)).length = 0 from rfl]
  have HEG := Lib.hid hE.old
  clear hE k2 k3
  try dsimp only
  go_wp2_with fail
  go_ret
  exact ⟨rfl, HF0.out.trans' HEG.out⟩
end Go.Proofs.Ytjnoddbhfcpniaa
