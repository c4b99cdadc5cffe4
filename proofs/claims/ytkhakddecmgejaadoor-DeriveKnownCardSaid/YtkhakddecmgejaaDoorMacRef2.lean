/-
  trystref04: Sum, Join, List, Extract.
-/
import Derived.Test.YtkhakddecmgejaaDoorMacRef
import Derived.Test.YtkhakddecmgejaaDoorNilHash
import Derived.Test.YtkhakddecmgejaaDoorRSum
import Derived.Deep.DeepCutAuto
namespace Go.Proofs.YtkhakddecmgejaaDoor
open Go.RowKit
set_option linter.unusedVariables false
set_option linter.unusedSimpArgs false

theorem size_arr (w : World) (f : Nat → Value) : (sizeOf 26).run Tryd.prog w = .ok (arr 32 f).size w := by rw [arr_size]; exact size_hash w
theorem rsum_n (w : World) (A : Option Addr) (m : List UInt8) (n c : Nat) (hn : m.length = n) (hx : Rd w A (m.map bv)) (hl : JLen m.length) :
    Calls Tryd.prog 19 #[.slice A n c] w fun e w' => e = .returned (.agg (arr 32 (shaAt m))) ∧ Frm noB w w' := by
  subst hn
  exact rsum_any w A m c hx hl

set_option maxRecDepth 100000 in
set_option maxHeartbeats 2000000 in
theorem rmac_any (w : World) (A B : Option Addr) (key text : List UInt8) (cap cb : Nat) (hx : Rd w A (key.map bv)) (hb : Rd w B (text.map bv)) (hl : JLen key.length) (hm : text.length ≤ 1000000000) :
    Calls Tryd.prog 38 #[.slice A key.length cap, .slice B text.length cb] w fun e w' => e = .returned (.agg (arr 32 (shaAt (macT key text)))) ∧ Frm noB w w' := by
  have HX := Lib.hid hx
  have HB := Lib.hid hb
  have HL := Lib.hid hl
  obtain ⟨mt, hmt⟩ : ∃ mt, mt = macT key text := ⟨_, rfl⟩
  have hml : mt.length = 96 := by rw [hmt]; exact macT_length _ _
  have HML := Lib.hid hml
  have HMT := Lib.hid hmt
  rw [← hmt]
  clear hx hb hl hmt hml
  go_enter Tryd.func38, Tryd.ntmps38
  go_upto_region 1 with fail
  have hr0 : Blk (w.alloc (.cells (arr 32 fun _ => bv 0) 26)) w.heap.size 26 (arr 32 fun _ => bv 0) := Blk.new _ _ _
  have hf0 : Frm noB w (w.alloc (.cells (arr 32 fun _ => bv 0) 26)) := (Frm.refl _ _).alloc _
  change Code.wp _ _ _ _ (w.alloc (.cells (arr 32 fun _ => bv 0) 26))
  generalize w.alloc (.cells (arr 32 fun _ => bv 0) 26) = w1 at *
  have HR0 := Lib.hid hr0
  have HF0 := Lib.hid hf0
  have hs1 : w.heap.size < w1.heap.size := hr0.lt
  clear hr0 hf0
  go_wp2_with fail
  refine (frame_any w1 A key cap 0x36 54 rfl (HX.out.frm' HF0.out) HL.out).mono ?_
  rintro _ w2 ⟨A2, c2, rfl, ho, hf⟩
  have HO2 := Lib.hid ho
  have HF2 : Hid (Frm noB w1 w2) := Lib.hid hf
  have hs2 := hf.size
  clear ho hf
  try dsimp only
  go_wp2_with (at_builtin; refine app info29 rfl w1.heap.size HO2.out _ _ rfl rfl rfl (by simp) (HB.out.frm' (HF0.out.trans' HF2.out)) (bv_one _) (by omega) (by omega) hs2 ?_; intro A3 c3 w3 ho3 hc3 hf3 hv3; have HO3 := Lib.hid ho3; have HF3 := Lib.hid hf3; clear ho3 hf3 hv3)
  have HI : Hid (Rd w3 A3 ((macIn key text).map bv)) := Lib.hid (by
    have := Rd.of_own HO3.out
    rw [← List.map_append] at this
    exact this)
  have HF3' : Hid (Frm noB w1 w3) := Lib.hid (HF2.out.trans HF3.out fun k hk h => by have := (own_lt HO2.out k h).1; omega)
  clear HO3 HF3 HO2 HF2 hs2
  refine (rsum_n w3 A3 (macIn key text) (64 + text.length) c3 (macIn_length _ _) HI.out (by rw [macIn_length]; unfold JLen; omega)).mono ?_
  rintro _ w4 ⟨rfl, hf⟩
  obtain ⟨s, hs⟩ : ∃ s, s = sha (macIn key text) := ⟨_, rfl⟩
  obtain ⟨wz, hrun, hz', hfz⟩ := run_storeRow (P := Tryd.prog) (w := w4.alloc (.cells #[.int .u8 0, .int .u8 0, .int .u8 0, .int .u8 0, .int .u8 0, .int .u8 0, .int .u8 0, .int .u8 0, .int .u8 0, .int .u8 0, .int .u8 0, .int .u8 0, .int .u8 0, .int .u8 0, .int .u8 0, .int .u8 0, .int .u8 0, .int .u8 0, .int .u8 0, .int .u8 0, .int .u8 0, .int .u8 0, .int .u8 0, .int .u8 0, .int .u8 0, .int .u8 0, .int .u8 0, .int .u8 0, .int .u8 0, .int .u8 0, .int .u8 0, .int .u8 0] 26)) (Blk.new _ _ _) (cs := arr 32 (shaAt (macIn key text))) (by rw [arr_size]; rfl) (one_arr fun i _ => rfl)
  have HZ : Hid (Rd wz (some ⟨w4.heap.size, 0, none⟩) (s.map bv)) := Lib.hid (by rw [hs]; exact hz'.hashRd)
  have HFZ : Hid (Frm noB w1 wz) := Lib.hid ((HF3'.out.trans' hf).trans' (((Frm.refl noB w4).alloc (.cells #[.int .u8 0, .int .u8 0, .int .u8 0, .int .u8 0, .int .u8 0, .int .u8 0, .int .u8 0, .int .u8 0, .int .u8 0, .int .u8 0, .int .u8 0, .int .u8 0, .int .u8 0, .int .u8 0, .int .u8 0, .int .u8 0, .int .u8 0, .int .u8 0, .int .u8 0, .int .u8 0, .int .u8 0, .int .u8 0, .int .u8 0, .int .u8 0, .int .u8 0, .int .u8 0, .int .u8 0, .int .u8 0, .int .u8 0, .int .u8 0, .int .u8 0, .int .u8 0] 26)).trans hfz fun k hk h => by have h : k = w4.heap.size := h; omega))
  have HS := Lib.hid hs
  have HSL : Hid (s.length = 32) := Lib.hid (by rw [hs]; exact sha_length _)
  have hs4 : w4.heap.size < wz.heap.size := hz'.lt
  have HRUN := Lib.hid hrun
  clear hf hz' hfz hs HI HF3' hrun
  try dsimp only
  go_wp2_with (refine wpList_storeRow rfl _ _ _ rfl rfl w4.heap.size rfl _ rfl (size_arr _ _) HRUN.out ?_)
  refine (frame_any wz A key cap 0x5c 92 rfl (HX.out.frm' (HF0.out.trans' HFZ.out)) HL.out).mono ?_
  rintro _ w5 ⟨A5, c5, rfl, ho, hf⟩
  have HO5 := Lib.hid ho
  have HF5 := Lib.hid hf
  have hs5 := hf.size
  clear ho hf
  try dsimp only
  go_wp2_with fail
  go_loopw [7, 8] (fun v i wr => ∃ k : Nat, k ≤ 32 ∧ i = .int .i64 k ∧ wr.ownsRow wz.heap.size 5 1 v (64 + k) ((turned 0x5c (padKey key) ++ s.take k).map bv) ∧ Frm noB wz wr) (fun _ i _ => 32 - (intOf i).toNat)
  case atStart => exact ⟨0, Nat.zero_le _, rfl, by simpa using HO5.out, HF5.out⟩
  case round =>
    clear HO5 HF5
    obtain ⟨k, hk, rfl, hown, hFz⟩ := hrel
    obtain ⟨Av, cv, rfl, _⟩ := own_slice hown
    have HO := Lib.hid hown
    have HF := Lib.hid hFz
    have hsz := hFz.size
    clear hown hFz
    by_cases hlt : k < 32
    · have hks : k < s.length := by rw [HSL.out]; exact hlt
      obtain ⟨b, o, e, hc⟩ := (HZ.out.frm' HF.out).b hks
      cases e
      rw [Nat.zero_add] at hc
      have HTS := Lib.hid (List.take_succ_eq_append_getElem hks)
      generalize s[k] = sx at *
      clear hks
      go_wp2_with (at_builtin; refine app1 info29 rfl wz.heap.size HO.out _ _ rfl rfl rfl rfl (by omega) (by omega) hsz ?_; intro A' c' w' hown' hcc hf' hv'; have HO' := Lib.hid hown'; have HF' := Lib.hid hf'; clear hown' hf' hv')
      refine ⟨⟨k + 1, by omega, by go_num, ?_, HF.out.trans HF'.out fun j hj hv => by have := own_lt HO.out j hv; omega⟩, by simp [intOf]; omega⟩
      rw [HTS.out, ← List.append_assoc, List.map_append]
      exact HO'.out
    · have e : k = 32 := by omega
      subst e
      have HT : Hid (Rd wr Av (mt.map bv)) := Lib.hid (by
        rw [HMT.out]
        have := Rd.of_own HO.out
        rw [List.take_of_length_le (by rw [HSL.out]; omega), HS.out] at this
        exact this)
      have HFr : Hid (Frm noB w1 wr) := Lib.hid (HFZ.out.trans' HF.out)
      clear HO HF hs4 hsz
      go_wp2_with fail
      refine (rsum_n wr Av mt (64 + 32) cv HML.out HT.out (by rw [HML.out]; unfold JLen; omega)).mono ?_
      rintro _ w9 ⟨rfl, hf⟩
      obtain ⟨wy, hrun, hy, hfy⟩ := run_storeRow (P := Tryd.prog) (HR0.out.frm' (HFr.out.trans' hf)) (cs := arr 32 (shaAt mt)) (by rw [arr_size, arr_size]) (one_arr fun i _ => rfl)
      have HY := Lib.hid hy
      have HFY : Hid (Frm noB w wy) := Lib.hid ((HF0.out.trans' (HFr.out.trans' hf)).trans hfy fun k hk h => by have h : k = w.heap.size := h; omega)
      have HRUN2 := Lib.hid hrun
      clear hy hfy hf hrun
      try dsimp only
      go_wp2_with (refine wpList_storeRow rfl _ _ _ rfl rfl w.heap.size rfl _ rfl (size_arr _ _) HRUN2.out ?_)
      exact bodyPost_ret (v := .agg (arr 32 (shaAt mt))) (results_cell_row rfl _ _ w.heap.size 26 _ (0, 0) _ rfl HY.out Tryd.underlying26 rfl (by rw [arr_size]; kernel_rfl)) rfl ⟨rfl, HFY.out⟩
end Go.Proofs.YtkhakddecmgejaaDoor
