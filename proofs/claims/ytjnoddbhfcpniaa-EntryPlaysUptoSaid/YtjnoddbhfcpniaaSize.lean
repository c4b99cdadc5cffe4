/-
  EntryPlays: the function that tells sizes; SameBatch.
-/
import Derived.Test.YtjnoddbhfcpniaaRefCol
import Derived.Test.YtjnoddbhfcpniaaRefEq
namespace Go.Proofs.Ytjnoddbhfcpniaa
open Go.RowKit
open Go.BigFrame
set_option linter.unusedVariables false
set_option linter.unusedSimpArgs false

set_option maxHeartbeats 400000 in
theorem size_any (w : World) (xb lb ab : Nat) (z1 z2 m kind : Int) (hx : Blk w xb 63 #[.pointer (some ⟨ab, 0, none⟩)]) (hl : Blk w lb 55 #[.int .i64 z1, .int .i64 z2]) (ha : Blk w ab 70 #[.int .i64 m]) :
    Calls Try.prog 42 #[.int .i64 kind, .pointer (some ⟨xb, 0, none⟩), .pointer (some ⟨lb, 0, none⟩)] w fun e w' =>
      e = .returned (.int .i64 (if kind = 1 then z1 else z2)) ∧ Frm (isB ab) w w' ∧ Blk w' ab 70 #[.int .i64 (IntKind.i64.wrap (m + 1))] := by
  have nx : xb ≠ ab := hx.ne_ ha (by decide)
  have nl : lb ≠ ab := hl.ne_ ha (by decide)
  have cx := hx.cell 0
  have ca := ha.cell 0
  simp at cx ca
  have HX := Lib.hid hx
  have HL := Lib.hid hl
  have HA := Lib.hid ha
  clear hx hl ha
  go_enter Try.func42, Try.ntmps42
  go_upto_region 1 with fail
  have s1 : w.drew.cell? ⟨xb, 0, none⟩ = some (.pointer (some ⟨ab, 0, none⟩)) := cx
  have s0 : w.drew.cell? ⟨ab, 0, none⟩ = some (.int .i64 m) := ca
  have FD := Lib.hid (Frm.refl (isB ab) w).drew
  have AD := Lib.hid HA.out.drew
  refine beginZ (fun W => W.cell? ⟨xb, 0, none⟩ = some (.pointer (some ⟨ab, 0, none⟩))) (fun W => W.cell? ⟨ab, 0, none⟩ = some (.int .i64 m)) [5, 8] (by kernel_rfl) ?_
  clear cx ca
  generalize w.drew = w3 at *
  refine takeP (i := 0) (.pointer (some ⟨ab, 0, none⟩)) rfl (by kernel_rfl) (by kernel_rfl) (by kernel_rfl) (by kernel_rfl) (fun _ _ _ h => h) (Or.inl ⟨by rfl, fun w hw => by go_simp⟩) ⟨s1, .inr s0⟩ ?_
  try simp only [Act.put, List.setIfInBounds_toArray, List.set_cons_zero, List.set_cons_succ]
  refine takeP (i := 1) (.pointer (some ⟨ab, 0, none⟩)) rfl (by kernel_rfl) (by kernel_rfl) (by kernel_rfl) (by kernel_rfl) (fun _ _ _ h => h) (Or.inl ⟨by rfl, fun w hw => by go_simp⟩) ⟨s1, .inr s0⟩ ?_
  try simp only [Act.put, List.setIfInBounds_toArray, List.set_cons_zero, List.set_cons_succ]
  refine takeP (i := 2) (.pointer (some ⟨ab, 0, none⟩)) rfl (by kernel_rfl) (by kernel_rfl) (by kernel_rfl) (by kernel_rfl) (fun _ _ _ h => h) (Or.inl ⟨by rfl, fun w hw => by go_simp⟩) ⟨s1, .inr s0⟩ ?_
  try simp only [Act.put, List.setIfInBounds_toArray, List.set_cons_zero, List.set_cons_succ]
  refine takeP (i := 3) (.pointer (some ⟨ab, 0, none⟩)) rfl (by kernel_rfl) (by kernel_rfl) (by kernel_rfl) (by kernel_rfl) (fun _ _ _ h => h) (Or.inl ⟨by rfl, fun w hw => by go_simp⟩) ⟨s1, .inr s0⟩ ?_
  try simp only [Act.put, List.setIfInBounds_toArray, List.set_cons_zero, List.set_cons_succ]
  refine takeS (i := 4) (.int .i64 m) rfl (by kernel_rfl) (by kernel_rfl) (by kernel_rfl) (by kernel_rfl) (by kernel_rfl) (by kernel_rfl) (fun _ _ _ h => h) (Or.inl ⟨by rfl, fun w hw => by go_simp⟩) ⟨s1, s0⟩ ?_
  try simp only [Act.put, List.setIfInBounds_toArray, List.set_cons_zero, List.set_cons_succ]
  refine consZ (i := 5) rfl (by kernel_rfl) (fun K hK => ?_)
  go_simp
  refine hK.out _ _ ⟨s1, .inl (by kernel_rfl)⟩ (fun hHeld => ?_)
  clear hK K hHeld
  try simp only [Act.put, List.setIfInBounds_toArray, List.set_cons_zero, List.set_cons_succ]
  refine takeP (i := 6) (.pointer (some ⟨ab, 0, none⟩)) rfl (by kernel_rfl) (by kernel_rfl) (by kernel_rfl) (by kernel_rfl) (fun _ _ _ h => h) (Or.inl ⟨by rfl, fun w hw => by go_simp⟩) ⟨s1, .inl (by kernel_rfl)⟩ ?_
  try simp only [Act.put, List.setIfInBounds_toArray, List.set_cons_zero, List.set_cons_succ]
  refine takeP (i := 7) (.pointer (some ⟨ab, 0, none⟩)) rfl (by kernel_rfl) (by kernel_rfl) (by kernel_rfl) (by kernel_rfl) (fun _ _ _ h => h) (Or.inl ⟨by rfl, fun w hw => by go_simp⟩) ⟨s1, .inl (by kernel_rfl)⟩ ?_
  try simp only [Act.put, List.setIfInBounds_toArray, List.set_cons_zero, List.set_cons_succ]
  have z0 := AD.out.frozen 0
  refine consZ (i := 8) rfl (by kernel_rfl) (fun K hK => ?_)
  go_simp
  have B5 := AD.out.set_ 0 (.int .i64 (IntKind.i64.wrap (m + 1)))
  have f5 : Frm (isB ab) w3 (w3.setCell ⟨ab, 0, none⟩ (.int .i64 (IntKind.i64.wrap (m + 1)))) := (Frm.refl (isB ab) w3).setCell (a := ⟨ab, 0, none⟩) (.inl (show isB ab ab from rfl)) _
  have s15 : (w3.setCell ⟨ab, 0, none⟩ (.int .i64 (IntKind.i64.wrap (m + 1)))).cell? ⟨xb, 0, none⟩ = some (.pointer (some ⟨ab, 0, none⟩)) := f5.cell_some s1 nx
  simp only [List.setIfInBounds_toArray, List.set_cons_zero] at B5
  have HB5 := Lib.hid B5
  have HF5 := Lib.hid (FD.out.trans' f5)
  clear B5 f5
  refine hK.out _ _ ⟨s15, .inl (by kernel_rfl)⟩ (fun hHeld => ?_)
  clear hK K hHeld
  try simp only [Act.put, List.setIfInBounds_toArray, List.set_cons_zero, List.set_cons_succ]
  refine doneZ (by kernel_rfl) ?_ _
  have L5 := HL.out.frm HF5.out nl
  have c0 := L5.cell 0
  have c1 := L5.cell 1
  simp at c0 c1
  clear L5 s1 s0 s15 z0
  generalize w3.setCell ⟨ab, 0, none⟩ (.int .i64 (IntKind.i64.wrap (m + 1))) = w5 at *
  by_cases hk : kind = 1
  · subst hk
    go_wp2
    go_ret
    exact ⟨rfl, HF5.out, HB5.out⟩
  · have hk' : (kind == 1) = false := by simpa using hk
    have HK := Lib.hid hk
    clear hk
    go_wp2
    go_ret
    exact ⟨by first | rfl | (rw [if_neg HK.out]; rfl), HF5.out, HB5.out⟩
set_option maxHeartbeats 400000 in
/-- two batches that read the same -/
theorem sameRef_any (w : World) (kind round : Int) (Aw Bw Ax Bx : Option Addr) (cw dw cx dx : Nat) (who : List Int) (boxes : List (List UInt8)) {N M : Nat → Prop} (h1 : Rd w Aw (who.map iv)) (h2 : Rd w Bw (who.map iv)) (h3 : RdRows w Ax boxes N) (h4 : RdRows w Bx boxes M)
    (l1 : who.length ≤ 256) (l2 : boxes.length ≤ 256) (l3 : ∀ l ∈ boxes, Len l.length) :
    Calls Try.prog 44 #[.agg #[.int .i64 kind, .int .u64 round, .slice Aw who.length cw, .slice Ax boxes.length cx], .agg #[.int .i64 kind, .int .u64 round, .slice Bw who.length dw, .slice Bx boxes.length dx]] w fun e w' => e = .returned (.bool true) ∧ Frm noB w w' := by
  have s1 : (w.alloc (.cells #[.int .i64 kind, .int .u64 round, .slice Aw who.length cw, .slice Ax boxes.length cx] 39)).heap.size = w.heap.size + 1 := by simp
  obtain ⟨w2, hw2⟩ : ∃ w2, w2 = (w.alloc (.cells #[.int .i64 kind, .int .u64 round, .slice Aw who.length cw, .slice Ax boxes.length cx] 39)).alloc (.cells #[.int .i64 kind, .int .u64 round, .slice Bw who.length dw, .slice Bx boxes.length dx] 39) := ⟨_, rfl⟩
  have hf : Frm noB w w2 := by rw [hw2]; exact ((Frm.refl _ _).alloc _).alloc _
  have b1 : Blk w2 w.heap.size 39 #[.int .i64 kind, .int .u64 round, .slice Aw who.length cw, .slice Ax boxes.length cx] := by rw [hw2]; exact (Blk.new _ _ _).alloc _
  have b2 : Blk w2 (w.heap.size + 1) 39 #[.int .i64 kind, .int .u64 round, .slice Bw who.length dw, .slice Bx boxes.length dx] := by rw [hw2, ← s1]; exact Blk.new _ _ _
  have a0 := b1.cell 0
  have a1 := b1.cell 1
  have a2 := b1.cell 2
  have a3 := b1.cell 3
  have d0 := b2.cell 0
  have d1 := b2.cell 1
  have d2 := b2.cell 2
  have d3 := b2.cell 3
  simp at a0 a1 a2 a3 d0 d1 d2 d3
  have Q1 := Lib.hid fun (w' : World) (hf' : Frm noB w2 w') => eqInts_any Aw Bw who who cw dw w' (h1.frm' (hf.trans' hf')) (h2.frm' (hf.trans' hf')) (by unfold Len; omega) (by unfold Len; omega)
  have Q2 := Lib.hid fun (w' : World) (hf' : Frm noB w2 w') => eqRows_any Ax Bx boxes boxes cx dx w' (h3.frm' (hf.trans' hf')) (h4.frm' (hf.trans' hf')) (by unfold Len; omega) (by unfold Len; omega) l3 l3
  rw [eql_true rfl] at Q1 Q2
  have HF := Lib.hid hf
  clear b1 b2 h1 h2 h3 h4 l1 l2 l3 s1 hf
  go_enter Try.func44, Try.ntmps44
  go_upto_region 1 with fail
  rw [← hw2]
  clear hw2
  go_wp2_with fail
  refine (Q1.out w2 (Frm.refl _ _)).mono ?_
  rintro _ w3 ⟨rfl, hf3⟩
  have b3 := hf3.cell_some a3 (fun h => h)
  have e3 := hf3.cell_some d3 (fun h => h)
  have HF3 := Lib.hid hf3
  clear hf3 a0 a1 a2 a3 d0 d1 d2 d3
  try dsimp only
  go_wp2_with fail
  refine (Q2.out w3 HF3.out).mono ?_
  rintro _ w4 ⟨rfl, hf4⟩
  have HF4 := Lib.hid (HF.out.trans' (HF3.out.trans' hf4))
  clear hf4 b3 e3
  try dsimp only
  go_wp2_with fail
  go_ret
  exact ⟨rfl, HF4.out⟩
end Go.Proofs.Ytjnoddbhfcpniaa
