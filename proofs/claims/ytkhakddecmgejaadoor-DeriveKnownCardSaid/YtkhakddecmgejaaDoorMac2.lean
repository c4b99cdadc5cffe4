/-
  derive: Write, Sum of a Mac; Sum, Extract.
-/
import Derived.Test.YtkhakddecmgejaaDoorMac
namespace Go.Proofs.YtkhakddecmgejaaDoor
open Go.RowKit
set_option linter.unusedVariables false
set_option linter.unusedSimpArgs false

/-- digest.Sum of two lists, which have just been laid -/
theorem dsum2 (w : World) (A B : Option Addr) (xs ys : List UInt8) (n m c d : Nat) (hn : xs.length = n) (hm : ys.length = m) (hT : TabOk w) (hx : Rd w A (xs.map bv)) (hy : Rd w B (ys.map bv)) (hc : n ≤ c) (hd : m ≤ d) (hl : HLen (n + m)) (t : List UInt8) (ht : xs ++ ys = t) :
    Calls Tryd.prog 18 #[.slice (some ⟨w.heap.size, 0, none⟩) 2 2] (w.alloc (.cells #[.slice A n c, .slice B m d] 29)) fun e w' => e = .returned (.agg (arr 32 (shaAt t))) ∧ Frm noB w w' := by
  subst hn; subst hm; subst ht
  have hR : RdRows (w.alloc (.cells #[.slice A xs.length c, .slice B ys.length d] 29)) (some ⟨w.heap.size, 0, none⟩) [xs, ys] (fun k => True ∨ k = w.heap.size) :=
    RdRows.laid [.slice A xs.length c, .slice B ys.length d] [xs, ys] rfl fun i hi hi' => by
      match i, hi with
      | 0, _ => exact ⟨_, _, rfl, hc, hx, fun _ _ _ => trivial⟩
      | 1, _ => exact ⟨_, _, rfl, hd, hy, fun _ _ _ => trivial⟩
  have ha : Frm noB w (w.alloc (.cells #[.slice A xs.length c, .slice B ys.length d] 29)) := (Frm.refl _ _).alloc _
  have hfl : ([xs, ys] : List (List UInt8)).flatten = xs ++ ys := by simp
  refine (dsum_any _ (some ⟨w.heap.size, 0, none⟩) [xs, ys] 2 (hT.frm' ha) hR (by rw [hfl, List.length_append]; exact hl) (by unfold HLen; simp)).mono fun e w' ⟨he, hf⟩ => ?_
  rw [hfl] at he
  exact ⟨he, ha.trans' hf⟩

theorem IsMac.lt {w : World} {mm b : Nat} {key text : List UInt8} (h : IsMac w mm b key text) : mm < w.heap.size ∧ b < w.heap.size := ⟨h.blk.lt, h.hash.lt⟩
theorem IsMac.ptr {w : World} {mm b : Nat} {key text : List UInt8} (h : IsMac w mm b key text) : w.cell? ⟨mm, 0, none⟩ = some (.pointer (some ⟨b, 0, none⟩)) := h.blk.at_ (i := 0) (by decide)
theorem IsMac.outer {w : World} {mm b : Nat} {key text : List UInt8} (h : IsMac w mm b key text) : Rd w (some ⟨mm, 1, none⟩) ((turned 0x5c (padKey key)).map bv) := fun i hi => by
  have hl : (turned 0x5c (padKey key)).length = 64 := by rw [turned_length, padKey_length]
  have hi' : i < 64 := by rw [List.length_map, hl] at hi; exact hi
  refine ⟨mm, 1, rfl, ?_⟩
  rw [h.blk.at_ (by omega), if_neg (by omega), Nat.add_sub_cancel_left]
  simp [List.getD, show i < (turned 0x5c (padKey key)).length by omega]

set_option maxRecDepth 100000 in
set_option maxHeartbeats 1000000 in
theorem put_any (w : World) (mm b : Nat) (key text : List UInt8) (A : Option Addr) (xs : List UInt8) (c : Nat) (hT : TabOk w) (hM : IsMac w mm b key text) (hx : Rd w A (xs.map bv)) (hA : xs ≠ [] → ∀ q, aB A q → q ≠ b) (hc : xs.length ≤ c) (hm : text.length ≤ 1000000000) (hl : xs.length ≤ 1000000000) :
    Calls Tryd.prog 66 #[.pointer (some ⟨mm, 0, none⟩), .slice A xs.length c] w fun e w' => e = .returned (.tuple #[.int .i64 xs.length, Value.nilIface]) ∧ IsMac w' mm b key (text ++ xs) ∧ Frm (isB b) w w' := by
  have HM := Lib.hid hM
  have HT := Lib.hid hT
  have HX := Lib.hid hx
  have HA := Lib.hid hA
  have p0 := hM.ptr
  have hne := hM.ne
  have HNE := Lib.hid hne
  have hlt := hM.lt.2
  clear hM hT hx hA hne
  go_enter Tryd.func66, Tryd.ntmps66
  go_upto_region 2 with fail
  have hb := Blk.new w 111 #[.pointer (some ⟨b, 0, none⟩)]
  have hf0 : Frm noB w (w.alloc (.cells #[.pointer (some ⟨b, 0, none⟩)] 111)) := (Frm.refl _ _).alloc _
  change Code.wp _ _ _ _ (w.alloc (.cells #[.pointer (some ⟨b, 0, none⟩)] 111))
  generalize w.alloc (.cells #[.pointer (some ⟨b, 0, none⟩)] 111) = w1 at *
  have b0 : w1.cell? ⟨w.heap.size, 0, none⟩ = some (.pointer (some ⟨b, 0, none⟩)) := hb.cell 0
  have HF0 := Lib.hid hf0
  clear hb hf0
  go_wp2_with fail
  refine (write_any w1 b (macIn key text) A xs c (HT.out.frm' HF0.out) (HM.out.hash.frm' HF0.out) (HX.out.frm' HF0.out) HA.out hc (by rw [macIn_length]; unfold HLen; omega) (by unfold HLen; omega)).mono ?_
  rintro _ w2 ⟨rfl, hI, hf⟩
  have hM2 : IsMac w2 mm b key (text ++ xs) := ⟨(HM.out.blk.frm' HF0.out).frm hf (fun h => HNE.out h), by
    have : macIn key (text ++ xs) = macIn key text ++ xs := by unfold macIn; rw [List.append_assoc]
    rw [this]; exact hI⟩
  have HM2 := Lib.hid hM2
  have HF2 : Hid (Frm (isB b) w w2) := Lib.hid (HF0.out.any.trans' hf)
  clear hI hf hM2
  try dsimp only
  go_wp2_with fail
  go_ret2
  exact ⟨rfl, HM2.out, HF2.out⟩

theorem macwrite_any (w : World) (mm b : Nat) (key text : List UInt8) (A : Option Addr) (xs : List UInt8) (c : Nat) (hT : TabOk w) (hM : IsMac w mm b key text) (hx : Rd w A (xs.map bv)) (hA : xs ≠ [] → ∀ q, aB A q → q ≠ b) (hc : xs.length ≤ c) (hm : text.length ≤ 1000000000) (hl : xs.length ≤ 1000000000) :
    Calls Tryd.prog 36 #[.pointer (some ⟨mm, 0, none⟩), .slice A xs.length c] w fun e w' => e = .returned (.tuple #[.int .i64 xs.length, Value.nilIface]) ∧ IsMac w' mm b key (text ++ xs) ∧ Frm (isB b) w w' := by
  have HP := Lib.hid (put_any w mm b key text A xs c hT hM hx hA hc hm hl)
  clear hT hM hx hA
  go_enter Tryd.func36, Tryd.ntmps36
  go_wp2_with fail
  refine HP.out.mono ?_
  rintro _ w2 ⟨rfl, hM2, hf⟩
  have HM2 := Lib.hid hM2
  have HF2 := Lib.hid hf
  clear hM2 hf
  try dsimp only
  go_wp2_with fail
  go_ret2
  exact ⟨rfl, HM2.out, HF2.out⟩

theorem macwrite_nil (w : World) (A : Option Addr) (n c : Nat) : Calls Tryd.prog 36 #[.pointer none, .slice A n c] w fun e w' => e = .returned (.tuple #[.int .i64 0, .iface 77 (.int .i64 1)]) ∧ w = w' := by
  go_enter Tryd.func36, Tryd.ntmps36
  go_wp2
  go_ret2
  exact ⟨rfl, rfl⟩

set_option maxRecDepth 100000 in
set_option maxHeartbeats 1000000 in
theorem macsum_nil (w : World) : Calls Tryd.prog 37 #[.pointer none] w fun e w' => e = .returned zH ∧ Frm noB w w' := by
  go_enter Tryd.func37, Tryd.ntmps37
  go_upto_region 1 with fail
  have hr0 : Blk (w.alloc (.cells (arr 32 fun _ => bv 0) 26)) w.heap.size 26 (arr 32 fun _ => bv 0) := Blk.new _ _ _
  have hf0 : Frm noB w (w.alloc (.cells (arr 32 fun _ => bv 0) 26)) := (Frm.refl _ _).alloc _
  change Code.wp _ _ _ _ (w.alloc (.cells (arr 32 fun _ => bv 0) 26))
  generalize w.alloc (.cells (arr 32 fun _ => bv 0) 26) = w1 at *
  obtain ⟨w2, hrun, hb2, hf2⟩ := run_storeRow (P := Tryd.prog) hr0 (cs := arr 32 fun _ => bv 0) rfl (one_arr fun i _ => rfl)
  have HB2 := Lib.hid hb2
  have HF2 : Hid (Frm noB w w2) := Lib.hid (hf0.trans hf2 fun k hk h => by have h : k = w.heap.size := h; omega)
  have HRUN : Hid ((storeCells ⟨w.heap.size, 0, none⟩ (#[.int .u8 0, .int .u8 0, .int .u8 0, .int .u8 0, .int .u8 0, .int .u8 0, .int .u8 0, .int .u8 0, .int .u8 0, .int .u8 0, .int .u8 0, .int .u8 0, .int .u8 0, .int .u8 0, .int .u8 0, .int .u8 0, .int .u8 0, .int .u8 0, .int .u8 0, .int .u8 0, .int .u8 0, .int .u8 0, .int .u8 0, .int .u8 0, .int .u8 0, .int .u8 0, .int .u8 0, .int .u8 0, .int .u8 0, .int .u8 0, .int .u8 0, .int .u8 0] : Array Value).toList).run Tryd.prog w1 = .ok () w2) := Lib.hid hrun
  clear hb2 hf2 hr0 hf0 hrun
  go_wp2_with (refine wpList_storeRow rfl _ _ _ rfl rfl w.heap.size rfl _ rfl (size_hash _) HRUN.out ?_)
  exact bodyPost_ret (v := zH) (results_cell_row rfl _ _ w.heap.size 26 _ (0, 0) _ rfl HB2.out Tryd.underlying26 rfl (by rw [arr_size]; kernel_rfl)) rfl ⟨rfl, HF2.out⟩

set_option maxRecDepth 100000 in
set_option maxHeartbeats 2000000 in
theorem macsum_any (w : World) (mm b : Nat) (key text : List UInt8) (hT : TabOk w) (hM : IsMac w mm b key text) (hm : text.length ≤ 2000000000) :
    Calls Tryd.prog 37 #[.pointer (some ⟨mm, 0, none⟩)] w fun e w' => e = .returned (.agg (arr 32 (shaAt (macT key text)))) ∧ Frm noB w w' := by
  have HM := Lib.hid hM
  have HT := Lib.hid hT
  obtain ⟨mt, hmt⟩ : ∃ mt, mt = macT key text := ⟨_, rfl⟩
  obtain ⟨mi, hmi⟩ : ∃ mi, mi = macIn key text := ⟨_, rfl⟩
  have hml : mi.length = 64 + text.length := by rw [hmi]; exact macIn_length _ _
  have HMI := Lib.hid hmi
  have HMT := Lib.hid hmt
  rw [← hmt]
  clear hM hT hmt hmi
  go_enter Tryd.func37, Tryd.ntmps37
  go_upto_region 1 with fail
  have hr0 : Blk (w.alloc (.cells (arr 32 fun _ => bv 0) 26)) w.heap.size 26 (arr 32 fun _ => bv 0) := Blk.new _ _ _
  have hf0 : Frm noB w (w.alloc (.cells (arr 32 fun _ => bv 0) 26)) := (Frm.refl _ _).alloc _
  change Code.wp _ _ _ _ (w.alloc (.cells (arr 32 fun _ => bv 0) 26))
  generalize w.alloc (.cells (arr 32 fun _ => bv 0) 26) = w1 at *
  have HR0 := Lib.hid hr0
  have HF0 := Lib.hid hf0
  have p0 := (HM.out.frm' hf0).ptr
  clear hr0 hf0
  go_wp2_with fail
  refine (sum_any w1 b mi (HT.out.frm' HF0.out) (by rw [HMI.out]; exact HM.out.hash.frm' HF0.out) (by rw [hml]; unfold HLen; omega)).mono ?_
  rintro _ w3 ⟨rfl, hf⟩
  obtain ⟨wz, hrun, hz', hfz⟩ := run_storeRow (P := Tryd.prog) (w := w3.alloc (.cells #[.int .u8 0, .int .u8 0, .int .u8 0, .int .u8 0, .int .u8 0, .int .u8 0, .int .u8 0, .int .u8 0, .int .u8 0, .int .u8 0, .int .u8 0, .int .u8 0, .int .u8 0, .int .u8 0, .int .u8 0, .int .u8 0, .int .u8 0, .int .u8 0, .int .u8 0, .int .u8 0, .int .u8 0, .int .u8 0, .int .u8 0, .int .u8 0, .int .u8 0, .int .u8 0, .int .u8 0, .int .u8 0, .int .u8 0, .int .u8 0, .int .u8 0, .int .u8 0] 26)) (Blk.new _ _ _) (cs := arr 32 (shaAt mi)) (by rw [arr_size]; rfl) (one_arr fun i _ => rfl)
  have HZ := Lib.hid hz'.hashRd
  have hfz1 : Frm noB w1 wz := hf.trans' (((Frm.refl noB w3).alloc (.cells #[.int .u8 0, .int .u8 0, .int .u8 0, .int .u8 0, .int .u8 0, .int .u8 0, .int .u8 0, .int .u8 0, .int .u8 0, .int .u8 0, .int .u8 0, .int .u8 0, .int .u8 0, .int .u8 0, .int .u8 0, .int .u8 0, .int .u8 0, .int .u8 0, .int .u8 0, .int .u8 0, .int .u8 0, .int .u8 0, .int .u8 0, .int .u8 0, .int .u8 0, .int .u8 0, .int .u8 0, .int .u8 0, .int .u8 0, .int .u8 0, .int .u8 0, .int .u8 0] 26)).trans hfz fun k hk h => by have h : k = w3.heap.size := h; omega)
  have HFZ := Lib.hid hfz1
  have HRUN := Lib.hid hrun
  clear hf hz' hfz hrun hfz1 p0 hml
  try dsimp only
  go_wp2_with (refine wpList_storeRow rfl _ _ _ rfl rfl w3.heap.size rfl _ rfl (size_arr _ _) HRUN.out ?_)
  go_still_tail 5, (by kernel_rfl)
  change wpList _ _ _ _ _ wz.drew
  have HFD : Hid (Frm noB w1 wz.drew) := Lib.hid HFZ.out.drew
  have HZD := Lib.hid HZ.out.drew
  generalize wz.drew = wd at *
  clear HFZ HZ
  go_wp2_with fail
  refine (dsum2 wd (some ⟨mm, 1, none⟩) (some ⟨w3.heap.size, 0, none⟩) (turned 0x5c (padKey key)) (sha mi) 64 32 64 32 (by rw [turned_length, padKey_length]) (sha_length _) (HT.out.frm' (HF0.out.trans' HFD.out)) (HM.out.frm' (HF0.out.trans' HFD.out)).outer HZD.out (by omega) (by omega) (by unfold HLen; omega) mt (by rw [HMT.out, HMI.out]; rfl)).mono ?_
  rintro _ w9 ⟨rfl, hf⟩
  obtain ⟨wy, hrun, hy, hfy⟩ := run_storeRow (P := Tryd.prog) (HR0.out.frm' (HFD.out.trans' hf)) (cs := arr 32 (shaAt mt)) (by rw [arr_size, arr_size]) (one_arr fun i _ => rfl)
  have HY := Lib.hid hy
  have HFY : Hid (Frm noB w wy) := Lib.hid ((HF0.out.trans' (HFD.out.trans' hf)).trans hfy fun k hk h => by have h : k = w.heap.size := h; omega)
  have HRUN2 := Lib.hid hrun
  clear hy hfy hf hrun
  try dsimp only
  go_wp2_with (refine wpList_storeRow rfl _ _ _ rfl rfl w.heap.size rfl _ rfl (size_arr _ _) HRUN2.out ?_)
  exact bodyPost_ret (v := .agg (arr 32 (shaAt mt))) (results_cell_row rfl _ _ w.heap.size 26 _ (0, 0) _ rfl HY.out Tryd.underlying26 rfl (by rw [arr_size]; kernel_rfl)) rfl ⟨rfl, HFY.out⟩
end Go.Proofs.YtkhakddecmgejaaDoor
