/-
  The store of a whole row, for the walk; keys, begin.
-/
import Derived.Test.YtkhakddecmgejaaDoorRot
import Derived.Test.YtkhakddecmgejaaDoorTab
namespace Go.Proofs.YtkhakddecmgejaaDoor
open Go.RowKit
set_option linter.unusedVariables false
set_option linter.unusedSimpArgs false

theorem wpList_storeRow {P : Program} {ops : Array Oper} {rest : List Oper} {o : Oper} {a : Act} {w w' : World} {Q : Exit → Act → World → Prop} (hgd : o.guard = none) (ty : TypeId) (p x : Operand) (ho : o.op = .store ty p x) (hd : o.dst = none)
    (g : Nat) (hp : a.eval p = .pointer (some ⟨g, 0, none⟩)) (cs : Array Value) (hx : a.eval x = .agg cs) (hs : (sizeOf ty).run P w = .ok cs.size w) (hrun : (storeCells ⟨g, 0, none⟩ cs.toList).run P w = .ok () w')
    (h : wpList P ops Q rest a w') : wpList P ops Q (o :: rest) a w := by
  have e : (Instr.storeAt ty (.pointer (some ⟨g, 0, none⟩)) (.agg cs)).run P w = .ok () w' := by
    simp [Instr.storeAt, storeVar, go_sem, hs, hrun]
  refine wpList_plain hgd fun K hK => ?_
  unfold Oper.wp
  simp only [execOp, ho, hp, hx, Sem.run_bind, e, Result.andThen_ok, Sem.run_pure, Oper.upon]
  have := hK _ _ h
  simpa [Act.put, hd] using this

theorem k_lit : (kZ.map fun z => Value.int .u32 z).toArray = arr 64 (ws kw) := by
  rw [kZ_eq]
  apply Array.ext_getElem?
  intro i
  have hl : kTab.length = 64 := rfl
  by_cases h : i < 64
  · have hk : i < kTab.length := h
    rw [arr_at h]
    simp only [List.getElem?_toArray, List.getElem?_map, List.getElem?_eq_getElem hk, Option.map_some, ws, uv, kw, List.getD_eq_getElem?_getD, Option.getD_some]
  · simp [arr, h, hl]

theorem size105 (w : World) : (sizeOf 105).run Tryd.prog w = .ok 64 w := by kernel_rfl
set_option maxRecDepth 100000 in
set_option maxHeartbeats 1000000 in
theorem keys_any (w : World) : Calls Tryd.prog 73 #[] w fun e w' => e = .returned (.agg (arr 64 (ws kw))) ∧ Frm noB w w' := by
  obtain ⟨w2, hrun, hb, hf⟩ := run_storeRow (P := Tryd.prog) (w := w.alloc (.cells #[.int .u32 0, .int .u32 0, .int .u32 0, .int .u32 0, .int .u32 0, .int .u32 0, .int .u32 0, .int .u32 0, .int .u32 0, .int .u32 0, .int .u32 0, .int .u32 0, .int .u32 0, .int .u32 0, .int .u32 0, .int .u32 0, .int .u32 0, .int .u32 0, .int .u32 0, .int .u32 0, .int .u32 0, .int .u32 0, .int .u32 0, .int .u32 0, .int .u32 0, .int .u32 0, .int .u32 0, .int .u32 0, .int .u32 0, .int .u32 0, .int .u32 0, .int .u32 0, .int .u32 0, .int .u32 0, .int .u32 0, .int .u32 0, .int .u32 0, .int .u32 0, .int .u32 0, .int .u32 0, .int .u32 0, .int .u32 0, .int .u32 0, .int .u32 0, .int .u32 0, .int .u32 0, .int .u32 0, .int .u32 0, .int .u32 0, .int .u32 0, .int .u32 0, .int .u32 0, .int .u32 0, .int .u32 0, .int .u32 0, .int .u32 0, .int .u32 0, .int .u32 0, .int .u32 0, .int .u32 0, .int .u32 0, .int .u32 0, .int .u32 0, .int .u32 0] 105)) (Blk.new _ _ _) (cs := (kZ.map fun z => Value.int .u32 z).toArray) (by decide +kernel) (fun v hv => by
    simp only [List.mem_map] at hv
    obtain ⟨z, _, rfl⟩ := hv
    rfl)
  have HB : Hid (Blk w2 w.heap.size 105 (arr 64 (ws kw))) := Lib.hid (by rw [← k_lit]; exact hb)
  have HF : Hid (Frm noB w w2) := Lib.hid (((Frm.refl noB w).alloc (.cells #[.int .u32 0, .int .u32 0, .int .u32 0, .int .u32 0, .int .u32 0, .int .u32 0, .int .u32 0, .int .u32 0, .int .u32 0, .int .u32 0, .int .u32 0, .int .u32 0, .int .u32 0, .int .u32 0, .int .u32 0, .int .u32 0, .int .u32 0, .int .u32 0, .int .u32 0, .int .u32 0, .int .u32 0, .int .u32 0, .int .u32 0, .int .u32 0, .int .u32 0, .int .u32 0, .int .u32 0, .int .u32 0, .int .u32 0, .int .u32 0, .int .u32 0, .int .u32 0, .int .u32 0, .int .u32 0, .int .u32 0, .int .u32 0, .int .u32 0, .int .u32 0, .int .u32 0, .int .u32 0, .int .u32 0, .int .u32 0, .int .u32 0, .int .u32 0, .int .u32 0, .int .u32 0, .int .u32 0, .int .u32 0, .int .u32 0, .int .u32 0, .int .u32 0, .int .u32 0, .int .u32 0, .int .u32 0, .int .u32 0, .int .u32 0, .int .u32 0, .int .u32 0, .int .u32 0, .int .u32 0, .int .u32 0, .int .u32 0, .int .u32 0, .int .u32 0] 105)).trans hf fun k hk h => by have h : k = w.heap.size := h; omega)
  have HRUN := Lib.hid hrun
  clear hrun hb hf
  go_enter Tryd.func73, Tryd.ntmps73
  go_wp2_with (refine wpList_storeRow rfl _ _ _ rfl rfl w.heap.size rfl _ rfl (size105 _) HRUN.out ?_)
  exact bodyPost_ret (v := .agg (arr 64 (ws kw))) (results_cell_row rfl _ _ w.heap.size 105 _ (0, 0) _ rfl HB.out Tryd.underlying105 rfl (by rw [arr_size]; kernel_rfl)) rfl ⟨rfl, HF.out⟩
set_option maxRecDepth 100000 in
theorem begin_any (w : World) : Calls Tryd.prog 62 #[] w fun e w' => e = .returned (S8.of h0).val ∧ Frm noB w w' := by
  go_enter Tryd.func62, Tryd.ntmps62
  go_wp2_with fail
  have hb : Blk (w.alloc (.cells (arr 8 (ws h0)) 92)) w.heap.size 92 (arr 8 (ws h0)) := Blk.new _ _ _
  have hf : Frm noB w (w.alloc (.cells (arr 8 (ws h0)) 92)) := (Frm.refl _ _).alloc _
  change bodyPost _ _ _ _ _ (w.alloc (.cells (arr 8 (ws h0)) 92))
  generalize w.alloc (.cells (arr 8 (ws h0)) 92) = w1 at *
  exact bodyPost_ret (v := .agg (arr 8 (ws h0))) (results_cell_row rfl _ _ w.heap.size 92 _ (0, 0) _ rfl hb Tryd.underlying92 rfl (by rw [arr_size]; kernel_rfl)) rfl ⟨rfl, hf⟩
end Go.Proofs.YtkhakddecmgejaaDoor
