/-
  TalkNew: hosts and pagers, made and asked.
-/
import Derived.Test.YtnpdhgfmoofknaaPad
import Derived.Test.YtnpdhgfmoofknaaNum2
import Derived.Test.YtnpdhgfmoofknaaMap
namespace Go.Proofs.Ytnpdhgfmoofknaa
open Go.RowKit
set_option linter.unusedVariables false
set_option linter.unusedSimpArgs false

set_option maxHeartbeats 400000 in
theorem hostnew (p s : Nat) (w : World) (hp : p ≤ 65536) (h1 : 1 ≤ s) (h2 : s ≤ 4124) : Calls Try.prog 5 #[.int .i64 p, .int .i64 s, .slice none 0 0] w fun e w' =>
    ∃ b, e = .returned (.tuple #[.pointer (some ⟨b, 0, none⟩), .int .i64 0]) ∧ Frm noB w w' ∧ w'.cell? ⟨b, 0, none⟩ = some (.int .i64 p) ∧ w'.cell? ⟨b, 1, none⟩ = some (.int .i64 s) ∧ w'.cell? ⟨b, 6, none⟩ = some (.slice none 0 0) := by
  have hmm := @run_makeMap Try.prog
  go_enter Try.func5, Try.ntmps5
  go_wp2
  obtain ⟨w3, hw3⟩ : ∃ w3 : World, w3 = ((w.alloc (.map #[] 0)).alloc (.map #[] 0)).alloc (.cells #[.int .i64 p, .int .i64 s, .map (some w.heap.size), .int .u64 0, .map (some (w.heap.size + 1)), .int .i64 0, .slice none 0 0, .int .i64 0] 59) := ⟨_, rfl⟩
  have hs : ((w.alloc (.map #[] 0)).alloc (.map #[] 0)).heap.size = w.heap.size + 1 + 1 := by simp
  have hB : Blk w3 (w.heap.size + 1 + 1) 59 #[.int .i64 p, .int .i64 s, .map (some w.heap.size), .int .u64 0, .map (some (w.heap.size + 1)), .int .i64 0, .slice none 0 0, .int .i64 0] := by
    rw [hw3, ← hs]; exact Blk.new _ _ _
  have hf : Frm noB w w3 := by rw [hw3]; exact (((Frm.refl _ _).alloc _).alloc _).alloc _
  rw [← hw3]
  have HB := Lib.hid hB
  have HF := Lib.hid hf
  clear hw3 hs hB hf
  go_loopw [33] (fun i wr => i = .int .i64 0 ∧ wr = w3) (fun _ _ => 0)
  case atStart => exact ⟨rfl, rfl⟩
  case round =>
    obtain ⟨rfl, rfl⟩ := hrel
    go_wp2
    go_ret2
    exact ⟨_, rfl, HF.out, HB.out.cell 0, HB.out.cell 1, HB.out.cell 6⟩
set_option maxHeartbeats 400000 in
theorem rhostnew (p s : Nat) (w : World) (hp : p ≤ 65536) (h1 : 1 ≤ s) (h2 : s ≤ 4124) : Calls Try.prog 6 #[.int .i64 p, .int .i64 s, .slice none 0 0] w fun e w' =>
    ∃ b, e = .returned (.tuple #[.pointer (some ⟨b, 0, none⟩), .int .i64 0]) ∧ Frm noB w w' ∧ w'.cell? ⟨b, 0, none⟩ = some (.int .i64 p) ∧ w'.cell? ⟨b, 1, none⟩ = some (.int .i64 s) := by
  go_enter Try.func6, Try.ntmps6
  go_wp2
  obtain ⟨w3, hw3⟩ : ∃ w3 : World, w3 = w.alloc (.cells #[.int .i64 p, .int .i64 s, .slice none 0 0, .slice none 0 0, .int .u64 0, .int .i64 0, .slice none 0 0, .bool false] 64) := ⟨_, rfl⟩
  have hB : Blk w3 w.heap.size 64 #[.int .i64 p, .int .i64 s, .slice none 0 0, .slice none 0 0, .int .u64 0, .int .i64 0, .slice none 0 0, .bool false] := by
    rw [hw3]; exact Blk.new _ _ _
  have hf : Frm noB w w3 := by rw [hw3]; exact (Frm.refl _ _).alloc _
  rw [← hw3]
  have HB := Lib.hid hB
  have HF := Lib.hid hf
  clear hw3 hB hf
  go_loopw [9] (fun i wr => i = .int .i64 0 ∧ wr = w3) (fun _ _ => 0)
  case atStart => exact ⟨rfl, rfl⟩
  case round =>
    obtain ⟨rfl, rfl⟩ := hrel
    go_wp2
    go_ret2
    exact ⟨_, rfl, HF.out, HB.out.cell 0, HB.out.cell 1⟩
/-- the zero key -/
def zK : Value := .agg #[.int .u8 0, .int .u8 0, .int .u8 0, .int .u8 0, .int .u8 0, .int .u8 0, .int .u8 0, .int .u8 0, .int .u8 0, .int .u8 0, .int .u8 0, .int .u8 0, .int .u8 0, .int .u8 0, .int .u8 0, .int .u8 0, .int .u8 0, .int .u8 0, .int .u8 0, .int .u8 0, .int .u8 0, .int .u8 0, .int .u8 0, .int .u8 0, .int .u8 0, .int .u8 0, .int .u8 0, .int .u8 0, .int .u8 0, .int .u8 0, .int .u8 0, .int .u8 0]
theorem hpages (b p : Nat) (w : World) (c0 : w.cell? ⟨b, 0, none⟩ = some (.int .i64 p)) : Calls Try.prog 60 #[.pointer (some ⟨b, 0, none⟩)] w fun e w' => e = .returned (.int .i64 p) ∧ w = w' := by
  go_enter Try.func60, Try.ntmps60
  go_wp2
  go_ret
  exact ⟨rfl, rfl⟩
theorem hsize (b s : Nat) (w : World) (c1 : w.cell? ⟨b, 1, none⟩ = some (.int .i64 s)) : Calls Try.prog 62 #[.pointer (some ⟨b, 0, none⟩)] w fun e w' => e = .returned (.int .i64 s) ∧ w = w' := by
  go_enter Try.func62, Try.ntmps62
  go_wp2
  go_ret
  exact ⟨rfl, rfl⟩
theorem hlog (b : Nat) (w : World) (c6 : w.cell? ⟨b, 6, none⟩ = some (.slice none 0 0)) : Calls Try.prog 11 #[.pointer (some ⟨b, 0, none⟩)] w fun e w' => e = .returned (.slice none 0 0) ∧ w = w' := by
  go_enter Try.func11, Try.ntmps11
  go_wp2
  go_ret
  exact ⟨rfl, rfl⟩
theorem ptext (q : Nat) (t : Int) (w : World) (c : w.cell? ⟨q, 36, none⟩ = some (.int .i64 t)) : Calls Try.prog 15 #[.pointer (some ⟨q, 0, none⟩)] w fun e w' => e = .returned (.int .i64 t) ∧ w = w' := by
  go_enter Try.func15, Try.ntmps15
  go_wp2
  go_ret
  exact ⟨rfl, rfl⟩
theorem ppages (q : Nat) (t : Int) (w : World) (c : w.cell? ⟨q, 35, none⟩ = some (.int .i64 t)) : Calls Try.prog 17 #[.pointer (some ⟨q, 0, none⟩)] w fun e w' => e = .returned (.int .i64 t) ∧ w = w' := by
  go_enter Try.func17, Try.ntmps17
  go_wp2
  go_ret
  exact ⟨rfl, rfl⟩
set_option maxRecDepth 100000 in
theorem clone_nil (w : World) : Calls Try.prog 28 #[.slice none 0 0] w fun e w' => e = .returned (.slice none 0 0) ∧ w = w' := by
  have hq : ∀ w : World, (binOp .eql 51 (.slice none 0 0) (.slice none 0 0)).run Try.prog w = .ok (.bool true) w := fun w => by kernel_rfl
  go_enter Try.func28, Try.ntmps28
  go_wp2
  go_ret
  exact ⟨rfl, rfl⟩
set_option maxRecDepth 100000 in
theorem pheld (q : Nat) (w : World) (c : w.cell? ⟨q, 38, none⟩ = some (.slice none 0 0)) : Calls Try.prog 12 #[.pointer (some ⟨q, 0, none⟩)] w fun e w' => e = .returned (.slice none 0 0) ∧ w = w' := by
  go_enter Try.func12, Try.ntmps12
  go_wp2_with fail
  refine (clone_nil w).mono ?_
  rintro _ _ ⟨rfl, rfl⟩
  try dsimp only
  go_wp2_with fail
  go_ret
  exact ⟨rfl, rfl⟩
/-- a struct literal, of whatever parts -/
theorem wpList_buildV {P : Program} {ops : Array Oper} {rest : List Oper} {o : Oper} {a : Act} {w : World} {Q : Exit → Act → World → Prop} (hg : o.guard = none) (t : TypeId) (parts : Array (Nat × Operand)) (ho : o.op = .build t parts) (vals : Array (Nat × Value)) (hv : (parts.map fun (i, x) => (i, a.eval x)) = vals) (cs : Array Value)
    (hrun : (Instr.build t vals).run P w = .ok (.agg cs) w) (h : wpList P ops Q rest (a.put o.dst (.agg cs)) w) : wpList P ops Q (o :: rest) a w :=
  wpList_plain hg fun K hK => by
    unfold Oper.wp execOp
    simp only [ho, hv, Sem.run_bind, hrun, Result.andThen_ok]
    exact hK _ _ h
set_option maxRecDepth 100000 in
theorem pager_build (a : Value) (ha : a = .pointer none ∨ ∃ b, a = .pointer (some ⟨b, 0, none⟩)) (p t : Int) (m1 m2 : Nat) : ∃ C : Array Value, (∀ w, (Instr.build 71 #[(0, .iface 27 a), (1, zK), (2, .int .u64 1), (3, .int .i64 2), (4, .int .i64 p), (5, .int .i64 t), (6, .map (some m1)), (8, .map (some m2))]).run Try.prog w = .ok (.agg C) w) ∧ C[35]? = some (.int .i64 p) ∧ C[36]? = some (.int .i64 t) ∧ C[38]? = some (.slice none 0 0) := by
  unfold zK
  exact ⟨#[.iface 27 a, .int .u8 0, .int .u8 0, .int .u8 0, .int .u8 0, .int .u8 0, .int .u8 0, .int .u8 0, .int .u8 0, .int .u8 0, .int .u8 0, .int .u8 0, .int .u8 0, .int .u8 0, .int .u8 0, .int .u8 0, .int .u8 0, .int .u8 0, .int .u8 0, .int .u8 0, .int .u8 0, .int .u8 0, .int .u8 0, .int .u8 0, .int .u8 0, .int .u8 0, .int .u8 0, .int .u8 0, .int .u8 0, .int .u8 0, .int .u8 0, .int .u8 0, .int .u8 0, .int .u64 1, .int .i64 2, .int .i64 p, .int .i64 t, .map (some m1), .slice none 0 0, .map (some m2), .int .i64 0, .int .u32 0, .int .i64 0], fun w => by kernel_rfl, rfl, rfl, rfl⟩
/-- the zero key's cells, by a name -/
theorem zK_some : ∃ K : Array Value, zK = .agg K ∧ K.size = 32 := ⟨_, rfl, rfl⟩

set_option maxRecDepth 100000 in
set_option maxHeartbeats 1000000 in
theorem pagernew (b p s : Nat) (w : World) (hp : p ≤ 65536) (h1 : 29 ≤ s) (h2 : s ≤ 4124) (c0 : w.cell? ⟨b, 0, none⟩ = some (.int .i64 p)) (c1 : w.cell? ⟨b, 1, none⟩ = some (.int .i64 s)) :
    Calls Try.prog 7 #[.iface 27 (.pointer (some ⟨b, 0, none⟩)), zK, .int .u64 1, .int .i64 2] w fun e w' =>
    ∃ q, e = .returned (.tuple #[.pointer (some ⟨q, 0, none⟩), .int .i64 0]) ∧ Frm noB w w' ∧ w'.cell? ⟨q, 35, none⟩ = some (.int .i64 p) ∧ w'.cell? ⟨q, 36, none⟩ = some (.int .i64 ((s : Int) - 28)) ∧ w'.cell? ⟨q, 38, none⟩ = some (.slice none 0 0) := by
  have hmm := @run_makeMap Try.prog
  obtain ⟨K, hK, hKs⟩ := zK_some
  have hPB := fun m1 m2 => pager_build (.pointer (some ⟨b, 0, none⟩)) (.inr ⟨b, rfl⟩) p ((s : Int) - 28) m1 m2
  rw [hK] at hPB ⊢
  have hB0 : Blk (w.alloc (.cells K 38)) w.heap.size 38 K := Blk.new _ _ _
  have hf0 : Frm noB w (w.alloc (.cells K 38)) := (Frm.refl _ _).alloc _
  have HKS := Lib.hid hKs
  have HPB := Lib.hid hPB
  clear hK hKs hPB
  go_enter Try.func7, Try.ntmps7
  go_upto_region 1 with fail
  generalize w.alloc (.cells K 38) = w1 at *
  have HB0 := Lib.hid hB0
  have HF0 := Lib.hid hf0
  have d0 := hf0.cell_some c0 (fun h => h)
  have d1 := hf0.cell_some c1 (fun h => h)
  obtain ⟨C, hC, e35, e36, e38⟩ := HPB.out w1.heap.size (w1.heap.size + 1)
  have HC := Lib.hid hC
  have HE := Lib.hid (And.intro e35 (And.intro e36 e38))
  have hs2 : ((w1.alloc (.map #[] 0)).alloc (.map #[] 0)).heap.size = w1.heap.size + 1 + 1 := by simp
  have HS2 := Lib.hid hs2
  clear hB0 hf0 c0 c1 hC e35 e36 e38 hs2
  go_upto_region 6 with (first | (go_at_call 60; refine (hpages b p _ d0).mono ?_; rintro _ _ ⟨rfl, rfl⟩) | (go_at_call 62; refine (hsize b s _ d1).mono ?_; rintro _ _ ⟨rfl, rfl⟩))
  go_wp2_with (first | (refine wpList_load_row rfl _ _ rfl w.heap.size rfl 38 _ (0, 0) _ HB0.out Try.underlying38 rfl (by rw [HKS.out]; kernel_rfl) ?_) | (refine wpList_buildV rfl 71 _ rfl _ (by simp only [List.map_toArray, List.map_cons, List.map_nil]; rfl) C (HC.out _) ?_))
  go_ret2
  have hB : Blk (((w1.alloc (.map #[] 0)).alloc (.map #[] 0)).alloc (.cells C 71)) (w1.heap.size + 1 + 1) 71 C := by rw [← HS2.out]; exact Blk.new _ _ _
  have hf : Frm noB w1 (((w1.alloc (.map #[] 0)).alloc (.map #[] 0)).alloc (.cells C 71)) := (((Frm.refl _ _).alloc _).alloc _).alloc _
  exact ⟨_, rfl, HF0.out.trans' hf, (hB.cell 35).trans HE.out.1, (hB.cell 36).trans HE.out.2.1, (hB.cell 38).trans HE.out.2.2⟩
end Go.Proofs.Ytnpdhgfmoofknaa
