/-
  digest.Sum, and equal hashes.
-/
import Derived.Test.YtkhakddecmgejaaDoorSum
import Derived.Test.YtkhakddecmgejaaDoorOwn
import Derived.Stop.BytesEq
namespace Go.Proofs.YtkhakddecmgejaaDoor
open Go.RowKit
set_option linter.unusedVariables false
set_option linter.unusedSimpArgs false

theorem sizeOf_u8 (w : World) : (sizeOf 5).run Tryd.prog w = .ok 1 w := by kernel_rfl
theorem sha_agg (m : List UInt8) : arr 32 (shaAt m) = ((sha m).map Extern.Stop.cell).toArray := by
  have := sha_arr m
  unfold hashV at this
  injection this with this
/-- two hashes, compared -/
theorem eq_sha (w : World) (m m' : List UInt8) : (Op.equalIn 10000 26 (.agg (arr 32 (shaAt m))) (.agg (arr 32 (shaAt m')))).run Tryd.prog w = .ok (sha m == sha m') w := by
  rw [sha_agg, sha_agg]
  exact run_equalIn_bytes w 9998 26 5 32 Tryd.underlying26 Tryd.underlying5 sizeOf_u8 _ _ (sha_length m) (sha_length m')
theorem eq_sha' (w : World) (m : List UInt8) : (Op.equalIn 10000 26 (.agg (arr 32 (shaAt m))) (.agg (arr 32 (shaAt m)))).run Tryd.prog w = .ok true w := by
  rw [eq_sha]; simp

theorem flat_take (xss : List (List UInt8)) {k : Nat} (h : k < xss.length) : (xss.take (k + 1)).flatten = (xss.take k).flatten ++ xss[k] := by
  rw [List.take_succ_eq_append_getElem h, List.flatten_append]; simp only [List.flatten_cons, List.flatten_nil, List.append_nil]
theorem flat_le (xss : List (List UInt8)) (k : Nat) : (xss.take k).flatten.length ≤ xss.flatten.length := by
  conv => rhs; rw [← List.take_append_drop k xss, List.flatten_append, List.length_append]
  omega
theorem elem_le (xss : List (List UInt8)) {k : Nat} (h : k < xss.length) : xss[k].length ≤ xss.flatten.length := by
  have := flat_le xss (k + 1)
  rw [flat_take xss h, List.length_append] at this
  omega

set_option maxRecDepth 100000 in
set_option maxHeartbeats 2000000 in
theorem dsum_any (w : World) (A : Option Addr) (xss : List (List UInt8)) (c : Nat) {N : Nat → Prop} (hT : TabOk w) (hx : RdRows w A xss N) (hl : HLen xss.flatten.length) (hn : HLen xss.length) :
    Calls Tryd.prog 18 #[.slice A xss.length c] w fun e w' => e = .returned (.agg (arr 32 (shaAt xss.flatten))) ∧ Frm noB w w' := by
  have HT := Lib.hid hT
  have HX := Lib.hid hx
  unfold HLen at hn
  have HL := Lib.hid hl
  clear hT hx hl
  go_enter Tryd.func18, Tryd.ntmps18
  go_upto_region 1 with fail
  have hr0 : Blk (w.alloc (.cells (arr 32 fun _ => bv 0) 26)) w.heap.size 26 (arr 32 fun _ => bv 0) := Blk.new _ _ _
  have hf0 : Frm noB w (w.alloc (.cells (arr 32 fun _ => bv 0) 26)) := (Frm.refl _ _).alloc _
  change Code.wp _ _ _ _ (w.alloc (.cells (arr 32 fun _ => bv 0) 26))
  generalize w.alloc (.cells (arr 32 fun _ => bv 0) 26) = w1 at *
  have HR0 := Lib.hid hr0
  have HF0 := Lib.hid hf0
  have hs1 : w.heap.size < w1.heap.size := hr0.lt
  clear hr0 hf0
  go_wp2_with fail
  refine (new_any w1 (HT.out.frm' HF0.out)).mono ?_
  rintro _ w2 ⟨b, rfl, hb, hI, hf⟩
  have HI := Lib.hid hI
  have HF2 := Lib.hid hf
  clear hI hf
  try dsimp only
  go_wp2_with fail
  go_loopw [9] (fun i wr => ∃ k : Nat, k ≤ xss.length ∧ i = .int .i64 k ∧ IsH wr b (xss.take k).flatten ∧ Frm noB w1 wr) (fun i _ => xss.length - (intOf i).toNat)
  case atStart => exact ⟨0, Nat.zero_le _, rfl, HI.out, HF2.out⟩
  case round =>
    clear HI HF2
    obtain ⟨k, hk, rfl, hI, hF⟩ := hrel
    have HI := Lib.hid hI
    have HF := Lib.hid hF
    clear hI hF
    by_cases hlt : k < xss.length
    · obtain ⟨bo, o, Ai, ci, rfl, hc, hcc, hri, _, _⟩ := HX.out.at hlt
      have hc' := (HF0.out.trans' HF.out).cell_some hc (fun h => h)
      have hne : xss[k] ≠ [] → ∀ q, aB Ai q → q ≠ b := fun hne q hq => by
        have := hri.lt (by simpa using List.length_pos_iff.2 hne) q hq
        omega
      have HW := Lib.hid (write_any wr b (xss.take k).flatten Ai xss[k] ci (HT.out.frm' (HF0.out.trans' HF.out)) HI.out (hri.frm' (HF0.out.trans' HF.out)) hne hcc (Nat.le_trans (flat_le xss k) HL.out) (Nat.le_trans (elem_le xss hlt) HL.out))
      clear hne hri hc
      go_wp2_with fail
      refine HW.out.mono ?_
      rintro _ w5 ⟨rfl, hI5, hf5⟩
      have HI5 := Lib.hid hI5
      have HF5 := Lib.hid (HF.out.trans hf5 fun k hk h => by have h : k = b := h; omega)
      clear hI5 hf5 hc'
      try dsimp only
      go_wp2_with fail
      refine ⟨⟨k + 1, by omega, by go_num, ?_, HF5.out⟩, by simp [intOf]; omega⟩
      rw [flat_take xss hlt]
      exact HI5.out
    · have e : k = xss.length := by omega
      subst e
      have HI' : Hid (IsH wr b xss.flatten) := Lib.hid (by have := HI.out; rwa [List.take_length] at this)
      clear HI
      go_wp2_with fail
      refine (sum_any wr b xss.flatten (HT.out.frm' (HF0.out.trans' HF.out)) HI'.out HL.out).mono ?_
      rintro _ w6 ⟨rfl, hf6⟩
      obtain ⟨wz, hrun, hz, hfz⟩ := run_storeRow (P := Tryd.prog) (HR0.out.frm' (HF.out.trans' hf6)) (cs := arr 32 (shaAt xss.flatten)) (by rw [arr_size, arr_size]) (one_arr fun i _ => rfl)
      have HZ := Lib.hid hz
      have HFZ : Hid (Frm noB w wz) := Lib.hid ((HF0.out.trans' (HF.out.trans' hf6)).trans hfz fun k hk h => by have h : k = w.heap.size := h; omega)
      clear hz hfz hf6
      try dsimp only
      go_wp2_with fail
      exact bodyPost_ret (v := .agg (arr 32 (shaAt xss.flatten))) (results_cell_row rfl _ _ w.heap.size 26 _ (0, 0) _ rfl HZ.out Tryd.underlying26 rfl (by rw [arr_size]; kernel_rfl)) rfl ⟨rfl, HFZ.out⟩
end Go.Proofs.YtkhakddecmgejaaDoor
