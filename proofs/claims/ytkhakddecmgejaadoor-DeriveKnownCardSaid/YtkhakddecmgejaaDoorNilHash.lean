/-
  The digest's methods at nil; its methods in the words of IsH; within.
-/
import Derived.Test.YtkhakddecmgejaaDoorStoreRow
import Derived.Test.YtkhakddecmgejaaDoorSum
namespace Go.Proofs.YtkhakddecmgejaaDoor
open Go.RowKit
set_option linter.unusedVariables false
set_option linter.unusedSimpArgs false

def zH : Value := .agg (arr 32 fun _ => bv 0)
theorem size_hash (w : World) : (sizeOf 26).run Tryd.prog w = .ok 32 w := by kernel_rfl
set_option maxRecDepth 100000 in
set_option maxHeartbeats 1000000 in
theorem sum_nil (w : World) : Calls Tryd.prog 26 #[.pointer none] w fun e w' => e = .returned zH ∧ Frm noB w w' := by
  go_enter Tryd.func26, Tryd.ntmps26
  go_upto_region 1 with fail
  have hr0 : Blk (w.alloc (.cells (arr 32 fun _ => bv 0) 26)) w.heap.size 26 (arr 32 fun _ => bv 0) := Blk.new _ _ _
  have hf0 : Frm noB w (w.alloc (.cells (arr 32 fun _ => bv 0) 26)) := (Frm.refl _ _).alloc _
  change Code.wp _ _ _ _ (w.alloc (.cells (arr 32 fun _ => bv 0) 26))
  generalize w.alloc (.cells (arr 32 fun _ => bv 0) 26) = w1 at *
  obtain ⟨w2, hrun, hb2, hf2⟩ := run_storeRow (P := Tryd.prog) hr0 (cs := arr 32 fun _ => bv 0) rfl (one_arr fun i _ => rfl)
  have HB2 := Lib.hid hb2
  have HF2 : Hid (Frm noB w w2) := Lib.hid (hf0.trans hf2 fun k hk h => by have h : k = w.heap.size := h; omega)
  have HRUN : Hid ((storeCells ⟨w.heap.size, 0, none⟩ (#[.int .u8 0, .int .u8 0, .int .u8 0, .int .u8 0, .int .u8 0, .int .u8 0, .int .u8 0, .int .u8 0, .int .u8 0, .int .u8 0, .int .u8 0, .int .u8 0, .int .u8 0, .int .u8 0, .int .u8 0, .int .u8 0, .int .u8 0, .int .u8 0, .int .u8 0, .int .u8 0, .int .u8 0, .int .u8 0, .int .u8 0, .int .u8 0, .int .u8 0, .int .u8 0, .int .u8 0, .int .u8 0, .int .u8 0, .int .u8 0, .int .u8 0, .int .u8 0] : Array Value).toList).run Tryd.prog w1 = .ok () w2) := Lib.hid hrun
  clear hb2 hf2 hr0 hf0 hrun
  go_wp2_with (refine wpList_storeRow rfl _ _ _ rfl rfl w.heap.size rfl _ rfl (size_hash _) HRUN.out ?_)
  exact bodyPost_ret (v := zH) (results_cell_row rfl _ _ w.heap.size 26 _ (0, 0) _ rfl HB2.out Tryd.underlying26 rfl (by rw [arr_size]; kernel_rfl)) rfl ⟨rfl, HF2.out⟩
theorem len_nil (w : World) : Calls Tryd.prog 27 #[.pointer none] w fun e w' => e = .returned (.int .u64 0) ∧ w = w' := by
  go_enter Tryd.func27, Tryd.ntmps27
  go_wp2
  go_ret
  exact ⟨rfl, rfl⟩
theorem copy_nil (w : World) : Calls Tryd.prog 29 #[.pointer none] w fun e w' => e = .returned (.pointer none) ∧ w = w' := by
  go_enter Tryd.func29, Tryd.ntmps29
  go_wp2
  go_ret
  exact ⟨rfl, rfl⟩
theorem write_nil (w : World) (A : Option Addr) (n c : Nat) : Calls Tryd.prog 24 #[.pointer none, .slice A n c] w fun e w' => e = .returned (.tuple #[.int .i64 0, .iface 77 (.int .i64 1)]) ∧ w = w' := by
  go_enter Tryd.func24, Tryd.ntmps24
  go_wp2
  go_ret2
  exact ⟨rfl, rfl⟩
theorem reset_nil (w : World) : Calls Tryd.prog 32 #[.pointer none] w fun e w' => e = .returned (.tuple #[]) ∧ w = w' := by
  go_enter Tryd.func32, Tryd.ntmps32
  go_wp2
  exact bodyPost_ret (results_none rfl _ _ _) rfl ⟨rfl, rfl⟩
theorem reset_is (w : World) (b : Nat) (m : List UInt8) (hT : TabOk w) (hI : IsH w b m) :
    Calls Tryd.prog 32 #[.pointer (some ⟨b, 0, none⟩)] w fun e w' => e = .returned (.tuple #[]) ∧ IsH w' b [] ∧ Frm (isB b) w w' := by
  obtain ⟨st, bl, h1, h2, h3⟩ := hI
  exact reset_any w b st bl _ _ hT h1 h3

theorem within_any (x : Int) (n : Nat) (w : World) (hx : -9223372036854775808 ≤ x ∧ x ≤ 9223372036854775807) (hn : 0 < n ∧ n ≤ 1000) :
    Calls Tryd.prog 28 #[.int .i64 x, .int .i64 n] w fun e w' => (∃ r : Nat, e = .returned (.int .i64 r) ∧ r < n) ∧ w = w' := by
  have h1 : -(n : Int) < x.tmod n := by
    have := Int.lt_tmod_of_pos x (show (0 : Int) < n by omega); omega
  have h2 : x.tmod n < n := Int.tmod_lt_of_pos x (by omega)
  by_cases h : x.tmod n < 0
  · go_enter Tryd.func28, Tryd.ntmps28
    go_wp2
    go_ret
    exact ⟨⟨(x.tmod n + n).toNat, ret_int (by omega), by omega⟩, rfl⟩
  · go_enter Tryd.func28, Tryd.ntmps28
    go_wp2
    go_ret
    exact ⟨⟨(x.tmod n).toNat, ret_int (by omega), by omega⟩, rfl⟩
theorem within3 (x : Int) (w : World) (hx : -9223372036854775808 ≤ x ∧ x ≤ 9223372036854775807) :
    Calls Tryd.prog 28 #[.int .i64 x, .int .i64 3] w fun e w' => (∃ r : Nat, e = .returned (.int .i64 r) ∧ r < 3) ∧ w = w' := within_any x 3 w hx (by decide)
end Go.Proofs.YtkhakddecmgejaaDoor
