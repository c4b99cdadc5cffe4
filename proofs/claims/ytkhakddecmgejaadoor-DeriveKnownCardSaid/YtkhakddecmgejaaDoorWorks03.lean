/-
  trystlaw03.works.
-/
import Derived.Test.YtkhakddecmgejaaDoorDsum
import Derived.Lib.SlBytesConst
namespace Go.Proofs.YtkhakddecmgejaaDoor
open Go.RowKit
set_option linter.unusedVariables false
set_option linter.unusedSimpArgs false

theorem abc0 : shaAt [97, 98, 99] 0 = .int .u8 186 := by
  have h : (sha [97, 98, 99]).getD 0 0 = 0xba := by decide +kernel
  unfold shaAt
  rw [h]; rfl
theorem abc1 : shaAt [97, 98, 99] 1 = .int .u8 120 := by
  have h : (sha [97, 98, 99]).getD 1 0 = 0x78 := by decide +kernel
  unfold shaAt
  rw [h]; rfl
theorem abc31 : shaAt [97, 98, 99] 31 = .int .u8 173 := by
  have h : (sha [97, 98, 99]).getD 31 0 = 0xad := by decide +kernel
  unfold shaAt
  rw [h]; rfl
/-- three lists, one of them nil, as they have just been laid (the first and the last out of constants) -/
theorem laid3 (w : World) (a b : List UInt8) (fa fb : Nat × Nat) : RdRows (((w.alloc (.cells (a.map bv).toArray 5 fa)).alloc (.cells (b.map bv).toArray 5 fb)).alloc (.cells #[.slice (some ⟨w.heap.size, 0, none⟩) a.length a.length, .slice none 0 0, .slice (some ⟨w.heap.size + 1, 0, none⟩) b.length b.length] 29))
    (some ⟨w.heap.size + 1 + 1, 0, none⟩) [a, [], b] (fun k => w.heap.size ≤ k) := by
  generalize hR : (#[.slice (some ⟨w.heap.size, 0, none⟩) a.length a.length, .slice none 0 0, .slice (some ⟨w.heap.size + 1, 0, none⟩) b.length b.length] : Array Value) = R
  have hA0 := heap_alloc_new w (.cells (a.map bv).toArray 5 fa)
  have hB0 := heap_alloc_new (w.alloc (.cells (a.map bv).toArray 5 fa)) (.cells (b.map bv).toArray 5 fb)
  have hC0 := heap_alloc_new ((w.alloc (.cells (a.map bv).toArray 5 fa)).alloc (.cells (b.map bv).toArray 5 fb)) (.cells R 29)
  have s1 : (w.alloc (.cells (a.map bv).toArray 5 fa)).heap.size = w.heap.size + 1 := by simp
  have s2 : ((w.alloc (.cells (a.map bv).toArray 5 fa)).alloc (.cells (b.map bv).toArray 5 fb)).heap.size = w.heap.size + 1 + 1 := by simp
  rw [s1] at hB0
  rw [s2] at hC0
  have f2 : Frm noB (w.alloc (.cells (a.map bv).toArray 5 fa)) ((w.alloc (.cells (a.map bv).toArray 5 fa)).alloc (.cells (b.map bv).toArray 5 fb)) := (Frm.refl _ _).alloc _
  have f3 : Frm noB ((w.alloc (.cells (a.map bv).toArray 5 fa)).alloc (.cells (b.map bv).toArray 5 fb)) (((w.alloc (.cells (a.map bv).toArray 5 fa)).alloc (.cells (b.map bv).toArray 5 fb)).alloc (.cells R 29)) := (Frm.refl _ _).alloc _
  have hB1 := (f3.block (w.heap.size + 1) (by omega) (fun h => h)).trans hB0
  have hA1 := ((f2.trans' f3).block w.heap.size (by omega) (fun h => h)).trans hA0
  generalize ((w.alloc (.cells (a.map bv).toArray 5 fa)).alloc (.cells (b.map bv).toArray 5 fb)).alloc (.cells R 29) = w3 at *
  have rd : ∀ (g : Nat) (l : List UInt8) (fr : Nat × Nat), w3.heap[g]? = some (.cells (l.map bv).toArray 5 fr) → Rd w3 (some ⟨g, 0, none⟩) (l.map bv) := fun g l fr h i hi => ⟨_, _, rfl, by rw [Nat.zero_add, cell_of_row _ _ _ _ _ _ h]; simp only [List.getElem?_toArray, List.getElem?_eq_getElem hi]⟩
  refine ⟨[.slice (some ⟨w.heap.size, 0, none⟩) a.length a.length, .slice none 0 0, .slice (some ⟨w.heap.size + 1, 0, none⟩) b.length b.length], fun i hi => ⟨_, _, rfl, ?_⟩, rfl, fun i hi hi' => ?_, fun _ k ⟨x, hx, hk⟩ => ?_⟩
  · rw [Nat.zero_add, cell_of_row _ _ _ _ _ _ hC0, ← hR]
    match i, hi with
    | 0, _ => rfl
    | 1, _ => rfl
    | 2, _ => rfl
  · match i, hi with
    | 0, _ => exact ⟨_, _, rfl, Nat.le_refl _, rd _ _ _ hA1, fun _ k ⟨x, hx, hk⟩ => by cases hx; simp at hk; omega⟩
    | 1, _ => exact ⟨_, _, rfl, Nat.le_refl _, Rd.nil _ _, fun h => absurd rfl h⟩
    | 2, _ => exact ⟨_, _, rfl, Nat.le_refl _, rd _ _ _ hB1, fun _ k ⟨x, hx, hk⟩ => by cases hx; simp at hk; omega⟩
  · cases hx; simp at hk; omega
theorem rdRows_nil (w : World) (A : Option Addr) : RdRows w A [] noB := ⟨[], Rd.nil _ _, rfl, fun i h => absurd h (by simp), fun h => absurd rfl h⟩

set_option maxRecDepth 100000 in
set_option maxHeartbeats 2000000 in
theorem works03 (w : World) (hT : TabOk w) : Calls Tryd.prog 16 #[] w fun e w' => e = .returned (.bool true) ∧ Frm noB w w' := by
  have HT := Lib.hid hT
  clear hT
  have kc := fun (w : World) (C : Array Value) (n c : Nat) => Lib.run_convert_bytes_const (P := Tryd.prog) w 29 5 C n c Tryd.underlying29 Tryd.underlying5
  have kc2 : (convert 29 29 (.slice (some ⟨w.heap.size + 1, 0, none⟩) 2 2)).run Tryd.prog ((w.alloc (.cells #[.int .u8 97] 5 (1, 2))).alloc (.cells #[.int .u8 98, .int .u8 99] 5)) = .ok (.slice (some ⟨w.heap.size + 1, 0, none⟩) 2 2) ((w.alloc (.cells #[.int .u8 97] 5 (1, 2))).alloc (.cells #[.int .u8 98, .int .u8 99] 5 (2, 3))) := by
    have := kc (w.alloc (.cells #[.int .u8 97] 5 (1, 2))) #[.int .u8 98, .int .u8 99] 2 2
    simpa using this
  go_enter Tryd.func16, Tryd.ntmps16
  go_wp2_with fail
  have h3 := laid3 w [97] [98, 99] (1, 2) (2, 3)
  have hf0 : Frm noB w (((w.alloc (.cells (([97] : List UInt8).map bv).toArray 5 (1, 2))).alloc (.cells (([98, 99] : List UInt8).map bv).toArray 5 (2, 3))).alloc (.cells #[.slice (some ⟨w.heap.size, 0, none⟩) 1 1, .slice none 0 0, .slice (some ⟨w.heap.size + 1, 0, none⟩) 2 2] 29)) := (((Frm.refl _ _).alloc _).alloc _).alloc _
  refine (dsum_any _ (some ⟨w.heap.size + 1 + 1, 0, none⟩) [[97], [], [98, 99]] 3 (HT.out.frm' hf0) h3 (by unfold HLen; simp) (by unfold HLen; simp)).mono ?_
  rintro _ w5 ⟨rfl, hf5⟩
  have HF5 := Lib.hid (hf0.trans' hf5)
  rw [show ([[97], [], [98, 99]] : List (List UInt8)).flatten = [97, 98, 99] from rfl]
  clear h3 hf0 hf5
  obtain ⟨wz, hrun, hz, hfz⟩ := run_storeRow (P := Tryd.prog) (w := w5.alloc (.cells #[.int .u8 0, .int .u8 0, .int .u8 0, .int .u8 0, .int .u8 0, .int .u8 0, .int .u8 0, .int .u8 0, .int .u8 0, .int .u8 0, .int .u8 0, .int .u8 0, .int .u8 0, .int .u8 0, .int .u8 0, .int .u8 0, .int .u8 0, .int .u8 0, .int .u8 0, .int .u8 0, .int .u8 0, .int .u8 0, .int .u8 0, .int .u8 0, .int .u8 0, .int .u8 0, .int .u8 0, .int .u8 0, .int .u8 0, .int .u8 0, .int .u8 0, .int .u8 0] 26)) (Blk.new _ _ _) (cs := arr 32 (shaAt [97, 98, 99])) (by rw [arr_size]; rfl) (one_arr fun i _ => rfl)
  have HZ := Lib.hid hz
  have HFZ : Hid (Frm noB w wz) := Lib.hid (HF5.out.trans' (((Frm.refl noB w5).alloc (.cells #[.int .u8 0, .int .u8 0, .int .u8 0, .int .u8 0, .int .u8 0, .int .u8 0, .int .u8 0, .int .u8 0, .int .u8 0, .int .u8 0, .int .u8 0, .int .u8 0, .int .u8 0, .int .u8 0, .int .u8 0, .int .u8 0, .int .u8 0, .int .u8 0, .int .u8 0, .int .u8 0, .int .u8 0, .int .u8 0, .int .u8 0, .int .u8 0, .int .u8 0, .int .u8 0, .int .u8 0, .int .u8 0, .int .u8 0, .int .u8 0, .int .u8 0, .int .u8 0] 26)).trans hfz fun k hk h => by have h : k = w5.heap.size := h; omega))
  clear hz hfz
  try dsimp only
  go_wp2_with fail
  refine (new_any _ (HT.out.frm' HFZ.out)).mono ?_
  rintro _ w6 ⟨b, rfl, hb, hI, hf⟩
  have HI := Lib.hid hI
  have HF6 := Lib.hid hf
  have c0 : w6.cell? ⟨w5.heap.size, 0, none⟩ = some (.int .u8 186) := by rw [← abc0]; exact (HZ.out.frm' hf).at_ (by decide)
  have c1 : w6.cell? ⟨w5.heap.size, 1, none⟩ = some (.int .u8 120) := by rw [← abc1]; exact (HZ.out.frm' hf).at_ (by decide)
  have c31 : w6.cell? ⟨w5.heap.size, 31, none⟩ = some (.int .u8 173) := by rw [← abc31]; exact (HZ.out.frm' hf).at_ (by decide)
  clear hI hf
  try dsimp only
  go_wp2_with fail
  refine (sum_any w6 b [] (HT.out.frm' (HFZ.out.trans' HF6.out)) HI.out (by unfold HLen; simp)).mono ?_
  rintro _ w7 ⟨rfl, hf7⟩
  have HF7 := Lib.hid (HF6.out.trans' hf7)
  have HI7 := Lib.hid (HI.out.frm' hf7)
  clear hf7 c0 c1 c31
  try dsimp only
  go_wp2_with fail
  refine (dsum_any w7 none [] 0 (HT.out.frm' (HFZ.out.trans' HF7.out)) (rdRows_nil _ _) (by unfold HLen; simp) (by unfold HLen; simp)).mono ?_
  rintro _ w8 ⟨rfl, hf8⟩
  rw [show ([] : List (List UInt8)).flatten = [] from rfl]
  have HF8 := Lib.hid (HF7.out.trans' hf8)
  have HI8 := Lib.hid (HI7.out.frm' hf8)
  have heq := fun w => eq_sha' w []
  clear hf8
  try dsimp only
  go_wp2_with fail
  refine (len_any w8 b [] HI8.out).mono ?_
  rintro _ _ ⟨rfl, rfl⟩
  try dsimp only
  go_wp2_with fail
  go_ret
  exact ⟨rfl, HFZ.out.trans' HF8.out⟩
end Go.Proofs.YtkhakddecmgejaaDoor
