/-
  trystlaw04: works.
-/
import Derived.Test.YtkhakddecmgejaaDoorWorks04
import Derived.Lib.SlBytesConst
namespace Go.Proofs.YtkhakddecmgejaaDoor
open Go.RowKit
set_option linter.unusedVariables false
set_option linter.unusedSimpArgs false

theorem rd_laid (w : World) (xs : List UInt8) (fz : Nat × Nat) : Rd (w.alloc (.cells (xs.map bv).toArray 5 fz)) (some ⟨w.heap.size, 0, none⟩) (xs.map bv) := fun i hi => ⟨_, 0, rfl, by
  rw [Nat.zero_add, cell_of_row _ _ i _ _ _ (heap_alloc_new w _)]
  simp only [List.getElem?_toArray, List.getElem?_eq_getElem hi]⟩
theorem jefe : hexL (ByteArray.mk #[53, 98, 100, 99, 99, 49, 52, 54, 98, 102, 54, 48, 55, 53, 52, 101, 54, 97, 48, 52, 50, 52, 50, 54, 48, 56, 57, 53, 55, 53, 99, 55, 53, 97, 48, 48, 51, 102, 48, 56, 57, 100, 50, 55, 51, 57, 56, 51, 57, 100, 101, 99, 53, 56, 98, 57, 54, 52, 101, 99, 51, 56, 52, 51]).data.toList = sha (macT [74, 101, 102, 101] [119, 104, 97, 116, 32, 100, 111, 32, 121, 97, 32, 119, 97, 110, 116, 32, 102, 111, 114, 32, 110, 111, 116, 104, 105, 110, 103, 63]) := by decide +kernel
set_option maxRecDepth 100000 in
set_option maxHeartbeats 2000000 in
theorem works04 (w : World) (hT : TabOk w) : Calls Tryd.prog 39 #[] w fun e w' => e = .returned (.bool true) ∧ Frm noB w w' := by
  have HT := Lib.hid hT
  clear hT
  have kc := fun (w : World) (C : Array Value) (n c : Nat) => Lib.run_convert_bytes_const (P := Tryd.prog) w 29 5 C n c Tryd.underlying29 Tryd.underlying5
  have kc2 : (convert 29 29 (.slice (some ⟨w.heap.size + 1, 0, none⟩) 11 11)).run Tryd.prog ((w.alloc (.cells #[.int .u8 74, .int .u8 101, .int .u8 102, .int .u8 101] 5 (4, 5))).alloc (.cells #[.int .u8 119, .int .u8 104, .int .u8 97, .int .u8 116, .int .u8 32, .int .u8 100, .int .u8 111, .int .u8 32, .int .u8 121, .int .u8 97, .int .u8 32] 5)) = .ok (.slice (some ⟨w.heap.size + 1, 0, none⟩) 11 11) ((w.alloc (.cells #[.int .u8 74, .int .u8 101, .int .u8 102, .int .u8 101] 5 (4, 5))).alloc (.cells #[.int .u8 119, .int .u8 104, .int .u8 97, .int .u8 116, .int .u8 32, .int .u8 100, .int .u8 111, .int .u8 32, .int .u8 121, .int .u8 97, .int .u8 32] 5 (11, 12))) := by
    have := kc (w.alloc (.cells #[.int .u8 74, .int .u8 101, .int .u8 102, .int .u8 101] 5 (4, 5))) #[.int .u8 119, .int .u8 104, .int .u8 97, .int .u8 116, .int .u8 32, .int .u8 100, .int .u8 111, .int .u8 32, .int .u8 121, .int .u8 97, .int .u8 32] 11 11
    simpa using this
  have kc3 : (convert 29 29 (.slice (some ⟨w.heap.size + 1 + 1, 0, none⟩) 17 17)).run Tryd.prog (((w.alloc (.cells #[.int .u8 74, .int .u8 101, .int .u8 102, .int .u8 101] 5 (4, 5))).alloc (.cells #[.int .u8 119, .int .u8 104, .int .u8 97, .int .u8 116, .int .u8 32, .int .u8 100, .int .u8 111, .int .u8 32, .int .u8 121, .int .u8 97, .int .u8 32] 5 (11, 12))).alloc (.cells #[.int .u8 119, .int .u8 97, .int .u8 110, .int .u8 116, .int .u8 32, .int .u8 102, .int .u8 111, .int .u8 114, .int .u8 32, .int .u8 110, .int .u8 111, .int .u8 116, .int .u8 104, .int .u8 105, .int .u8 110, .int .u8 103, .int .u8 63] 5)) = .ok (.slice (some ⟨w.heap.size + 1 + 1, 0, none⟩) 17 17) (((w.alloc (.cells #[.int .u8 74, .int .u8 101, .int .u8 102, .int .u8 101] 5 (4, 5))).alloc (.cells #[.int .u8 119, .int .u8 104, .int .u8 97, .int .u8 116, .int .u8 32, .int .u8 100, .int .u8 111, .int .u8 32, .int .u8 121, .int .u8 97, .int .u8 32] 5 (11, 12))).alloc (.cells #[.int .u8 119, .int .u8 97, .int .u8 110, .int .u8 116, .int .u8 32, .int .u8 102, .int .u8 111, .int .u8 114, .int .u8 32, .int .u8 110, .int .u8 111, .int .u8 116, .int .u8 104, .int .u8 105, .int .u8 110, .int .u8 103, .int .u8 63] 5 (17, 18))) := by
    have := kc ((w.alloc (.cells #[.int .u8 74, .int .u8 101, .int .u8 102, .int .u8 101] 5 (4, 5))).alloc (.cells #[.int .u8 119, .int .u8 104, .int .u8 97, .int .u8 116, .int .u8 32, .int .u8 100, .int .u8 111, .int .u8 32, .int .u8 121, .int .u8 97, .int .u8 32] 5 (11, 12))) #[.int .u8 119, .int .u8 97, .int .u8 110, .int .u8 116, .int .u8 32, .int .u8 102, .int .u8 111, .int .u8 114, .int .u8 32, .int .u8 110, .int .u8 111, .int .u8 116, .int .u8 104, .int .u8 105, .int .u8 110, .int .u8 103, .int .u8 63] 17 17
    simpa using this
  go_enter Tryd.func39, Tryd.ntmps39
  go_wp2_with fail
  have r0 := rd_laid w [74, 101, 102, 101] (4, 5)
  have r1 := rd_laid (w.alloc (.cells (([74, 101, 102, 101] : List UInt8).map bv).toArray 5 (4, 5))) [119, 104, 97, 116, 32, 100, 111, 32, 121, 97, 32] (11, 12)
  have r2 := rd_laid ((w.alloc (.cells (([74, 101, 102, 101] : List UInt8).map bv).toArray 5 (4, 5))).alloc (.cells (([119, 104, 97, 116, 32, 100, 111, 32, 121, 97, 32] : List UInt8).map bv).toArray 5 (11, 12))) [119, 97, 110, 116, 32, 102, 111, 114, 32, 110, 111, 116, 104, 105, 110, 103, 63] (17, 18)
  generalize hw2 : ((w.alloc (.cells (([74, 101, 102, 101] : List UInt8).map bv).toArray 5 (4, 5))).alloc (.cells (([119, 104, 97, 116, 32, 100, 111, 32, 121, 97, 32] : List UInt8).map bv).toArray 5 (11, 12))).alloc (.cells (([119, 97, 110, 116, 32, 102, 111, 114, 32, 110, 111, 116, 104, 105, 110, 103, 63] : List UInt8).map bv).toArray 5 (17, 18)) = w3 at *
  have hf3 : Frm noB w w3 := hw2 ▸ ((((Frm.refl noB w).alloc _).alloc _).alloc _)
  have r0' : Rd w3 (some ⟨w.heap.size, 0, none⟩) (([74, 101, 102, 101] : List UInt8).map bv) := hw2 ▸ ((r0.alloc _).alloc _)
  have r1' : Rd w3 (some ⟨w.heap.size + 1, 0, none⟩) (([119, 104, 97, 116, 32, 100, 111, 32, 121, 97, 32] : List UInt8).map bv) := hw2 ▸ (by simpa using r1.alloc _)
  have r2' : Rd w3 (some ⟨w.heap.size + 1 + 1, 0, none⟩) (([119, 97, 110, 116, 32, 102, 111, 114, 32, 110, 111, 116, 104, 105, 110, 103, 63] : List UInt8).map bv) := by simpa using r2
  have hsz : w3.heap.size = w.heap.size + 1 + 1 + 1 := by rw [← hw2]; simp
  have hR := RdRows.laid (w := w3) (N := fun _ => True) [.slice (some ⟨w.heap.size + 1, 0, none⟩) 11 11, .slice (some ⟨w.heap.size + 1 + 1, 0, none⟩) 17 17] [[119, 104, 97, 116, 32, 100, 111, 32, 121, 97, 32], [119, 97, 110, 116, 32, 102, 111, 114, 32, 110, 111, 116, 104, 105, 110, 103, 63]] rfl fun i hi hi' => by
    match i, hi with
    | 0, _ => exact ⟨_, _, rfl, Nat.le_refl 11, r1', fun _ _ _ => trivial⟩
    | 1, _ => exact ⟨_, _, rfl, Nat.le_refl 17, r2', fun _ _ _ => trivial⟩
  have hf4 : Frm noB w (w3.alloc (.cells #[.slice (some ⟨w.heap.size + 1, 0, none⟩) 11 11, .slice (some ⟨w.heap.size + 1 + 1, 0, none⟩) 17 17] 29)) := hf3.alloc _
  rw [hsz] at hR
  have hD := dersum_n _ (some ⟨w.heap.size, 0, none⟩) (some ⟨w.heap.size + 1 + 1 + 1, 0, none⟩) [74, 101, 102, 101] [[119, 104, 97, 116, 32, 100, 111, 32, 121, 97, 32], [119, 97, 110, 116, 32, 102, 111, 114, 32, 110, 111, 116, 104, 105, 110, 103, 63]] 4 2 4 2 [119, 104, 97, 116, 32, 100, 111, 32, 121, 97, 32, 119, 97, 110, 116, 32, 102, 111, 114, 32, 110, 111, 116, 104, 105, 110, 103, 63] rfl rfl (by simp) (HT.out.frm' hf4) (r0'.alloc _) (by omega) (by omega) hR (by decide) (by omega)
  subst hw2
  refine hD.mono ?_
  rintro _ w5 ⟨rfl, hf⟩
  have HF5 := Lib.hid (hf4.trans' hf)
  have HJ := Lib.hid jefe
  clear hD hR hf4 hf3 hsz r0 r1 r2 r0' r1' r2' kc2 kc3 kc hf
  generalize hmt : macT [74, 101, 102, 101] [119, 104, 97, 116, 32, 100, 111, 32, 121, 97, 32, 119, 97, 110, 116, 32, 102, 111, 114, 32, 110, 111, 116, 104, 105, 110, 103, 63] = mt at *
  clear hmt
  try dsimp only
  go_wp2_with fail
  refine (is_any w5 mt (ByteArray.mk #[53, 98, 100, 99, 99, 49, 52, 54, 98, 102, 54, 48, 55, 53, 52, 101, 54, 97, 48, 52, 50, 52, 50, 54, 48, 56, 57, 53, 55, 53, 99, 55, 53, 97, 48, 48, 51, 102, 48, 56, 57, 100, 50, 55, 51, 57, 56, 51, 57, 100, 101, 99, 53, 56, 98, 57, 54, 52, 101, 99, 51, 56, 52, 51]) rfl HJ.out).mono ?_
  rintro _ w6 ⟨rfl, hf⟩
  have HF6 := Lib.hid (HF5.out.trans' hf)
  clear hf
  try dsimp only
  go_wp2_with fail
  go_ret
  exact ⟨rfl, HF6.out⟩
end Go.Proofs.YtkhakddecmgejaaDoor
