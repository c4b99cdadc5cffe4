/-
  trystref04: Join, List, Extract, Wrong, Expand, Drawn.
-/
import Derived.Test.YtkhakddecmgejaaDoorMacRef2
import Derived.Test.YtkhakddecmgejaaDoorJoin
namespace Go.Proofs.YtkhakddecmgejaaDoor
open Go.RowKit
set_option linter.unusedVariables false
set_option linter.unusedSimpArgs false

theorem own_nil_ne {S : Nat → Prop} {w w' : World} (h : Frm (oB (.slice none 0 0)) w w') : Frm noB w w' := h.mono fun k _ h => by simp [oB, Value.ownBlock] at h

set_option maxRecDepth 100000 in
set_option maxHeartbeats 1000000 in
theorem join4_any (w : World) (A : Option Addr) (xss : List (List UInt8)) (c : Nat) {N : Nat → Prop} (hx : RdRows w A xss N) (hl : JLen xss.flatten.length) (hn : JLen xss.length) :
    Calls Tryd.prog 44 #[.slice A xss.length c] w fun e w' => ∃ A' c', e = .returned (.slice A' xss.flatten.length c') ∧ w'.ownsRow w.heap.size 5 1 (.slice A' xss.flatten.length c') xss.flatten.length (xss.flatten.map bv) ∧ Frm noB w w' := by
  have HX := Lib.hid hx
  unfold JLen at hl hn
  clear hx
  go_enter Tryd.func44, Tryd.ntmps44
  go_wp2
  go_loopw [3, 4] (fun v i wr => ∃ k : Nat, k ≤ xss.length ∧ i = .int .i64 k ∧ wr.ownsRow w.heap.size 5 1 v (xss.take k).flatten.length ((xss.take k).flatten.map bv) ∧ Frm noB w wr) (fun _ i _ => xss.length - (intOf i).toNat)
  case atStart => exact ⟨0, Nat.zero_le _, rfl, World.ownsRow_nil _ _ _ _, Frm.refl _ _⟩
  case round =>
    obtain ⟨k, hk, rfl, ho, hF⟩ := hrel
    by_cases hlt : k < xss.length
    · obtain ⟨bo, o, Ai, ci, rfl, hc, hcc, hri, _, _⟩ := (HX.out.frm' hF).at hlt
      have hel := elem_le xss hlt
      have hfl := flat_le xss k
      have HFT := Lib.hid (flat_take xss hlt)
      obtain ⟨pre, hp⟩ : ∃ pre, pre = (xss.take k).flatten := ⟨_, rfl⟩
      rw [← hp] at ho hfl
      have HP := Lib.hid hp
      generalize hxi : xss[k] = xi at *
      have HXI := Lib.hid hxi
      have HRI := Lib.hid hri
      have HO := Lib.hid ho
      have HF := Lib.hid hF
      have hsz := hF.size
      clear ho hF hri hp hxi hcc
      go_wp2_with (at_builtin; refine app info29 rfl w.heap.size HO.out _ _ rfl rfl rfl (by simp) HRI.out (bv_one _) (by omega) (by omega) hsz ?_; intro A' c' w' ho' hcc' hf' hv'; have HO' := Lib.hid ho'; have HF' := Lib.hid hf'; clear ho' hf' hv' hcc')
      refine ⟨⟨k + 1, by omega, by go_num, ?_, HF.out.trans HF'.out fun j hj h => by have := (own_lt HO.out j h).1; omega⟩, by simp [intOf]; omega⟩
      rw [HFT.out, ← HP.out, List.length_append, List.map_append]
      exact HO'.out
    · have e : k = xss.length := by omega
      subst e
      rw [List.take_length] at ho
      obtain ⟨Av, cv, rfl, _⟩ := own_slice ho
      have HO := Lib.hid ho
      have HF := Lib.hid hF
      clear ho hF
      go_wp2
      go_ret
      exact ⟨_, _, rfl, HO.out, HF.out⟩

set_option maxRecDepth 100000 in
set_option maxHeartbeats 1000000 in
theorem list_any (w : World) (m : List UInt8) : Calls Tryd.prog 68 #[.agg (arr 32 (shaAt m))] w fun e w' => ∃ A' c', e = .returned (.slice A' 32 c') ∧ w'.ownsRow w.heap.size 5 1 (.slice A' 32 c') 32 ((sha m).map bv) ∧ Frm noB w w' := by
  have hb := Blk.new w 26 (arr 32 (shaAt m))
  have hf0 : Frm noB w (w.alloc (.cells (arr 32 (shaAt m)) 26)) := (Frm.refl _ _).alloc _
  go_enter Tryd.func68, Tryd.ntmps68
  go_upto_region 2 with fail
  generalize w.alloc (.cells (arr 32 (shaAt m)) 26) = w1 at *
  obtain ⟨s, hs⟩ : ∃ s, s = sha m := ⟨_, rfl⟩
  have HZ : Hid (Rd w1 (some ⟨w.heap.size, 0, none⟩) (s.map bv)) := Lib.hid (by rw [hs]; exact hb.hashRd)
  have HS := Lib.hid hs
  have HSL : Hid (s.length = 32) := Lib.hid (by rw [hs]; exact sha_length _)
  have HF0 := Lib.hid hf0
  have hz1 : w.heap.size < w1.heap.size := hb.lt
  clear hb hf0 hs
  go_wp2_with fail
  go_loopw [3, 4] (fun v i wr => ∃ k : Nat, k ≤ 32 ∧ i = .int .i64 k ∧ wr.ownsRow w1.heap.size 5 1 v k ((s.take k).map bv) ∧ Frm noB w1 wr) (fun _ i _ => 32 - (intOf i).toNat)
  case atStart => exact ⟨0, Nat.zero_le _, rfl, World.ownsRow_nil _ _ _ _, Frm.refl _ _⟩
  case round =>
    obtain ⟨k, hk, rfl, hown, hFz⟩ := hrel
    obtain ⟨Av, cv, rfl, _⟩ := own_slice hown
    have HO := Lib.hid hown
    have HF := Lib.hid hFz
    have hsz := hFz.size
    clear hown hFz
    by_cases hlt : k < 32
    · have hks : k < s.length := by rw [HSL.out]; exact hlt
      obtain ⟨b, o, e, hc⟩ := (HZ.out.frm' HF.out).b hks
      cases e
      rw [Nat.zero_add] at hc
      have HTS := Lib.hid (List.take_succ_eq_append_getElem hks)
      generalize s[k] = sx at *
      clear hks
      go_wp2_with (at_builtin; refine app1 info29 rfl w1.heap.size HO.out _ _ rfl rfl rfl rfl (by omega) (by omega) hsz ?_; intro A' c' w' hown' hcc hf' hv'; have HO' := Lib.hid hown'; have HF' := Lib.hid hf'; clear hown' hf' hv')
      refine ⟨⟨k + 1, by omega, by go_num, ?_, HF.out.trans HF'.out fun j hj hv => by have := own_lt HO.out j hv; omega⟩, by simp [intOf]; omega⟩
      rw [HTS.out, List.map_append]
      exact HO'.out
    · have e : k = 32 := by omega
      subst e
      have HR : Hid (wr.ownsRow w.heap.size 5 1 (.slice Av 32 cv) 32 ((sha m).map bv)) := Lib.hid (by
        have := HO.out
        rw [List.take_of_length_le (by rw [HSL.out]; omega), HS.out] at this
        exact own_base this fun q hq => by have := (own_lt this q hq).1; omega)
      clear HO
      go_wp2_with fail
      go_ret
      exact ⟨_, _, rfl, HR.out, HF0.out.trans' HF.out⟩

set_option maxRecDepth 100000 in
set_option maxHeartbeats 1000000 in
theorem rextract_any (w : World) (A B : Option Addr) (key text : List UInt8) (cap cb : Nat) (hx : Rd w A (key.map bv)) (hb : Rd w B (text.map bv)) (hl : JLen key.length) (hm : text.length ≤ 1000000000) :
    Calls Tryd.prog 50 #[.slice A key.length cap, .slice B text.length cb] w fun e w' => e = .returned (.agg (arr 32 (shaAt (macT key text)))) ∧ Frm noB w w' := by
  have HX := Lib.hid hx
  have HB := Lib.hid hb
  have HL := Lib.hid hl
  obtain ⟨mt, hmt⟩ : ∃ mt, mt = macT key text := ⟨_, rfl⟩
  have HC := Lib.hid fun w1 hf => rmac_any w1 A B key text cap cb (HX.out.frm' (w' := w1) hf) (HB.out.frm' hf) HL.out hm
  rw [← hmt] at HC ⊢
  clear hx hb hl hmt
  go_enter Tryd.func50, Tryd.ntmps50
  go_upto_region 1 with fail
  have hr0 : Blk (w.alloc (.cells (arr 32 fun _ => bv 0) 26)) w.heap.size 26 (arr 32 fun _ => bv 0) := Blk.new _ _ _
  have hf0 : Frm noB w (w.alloc (.cells (arr 32 fun _ => bv 0) 26)) := (Frm.refl _ _).alloc _
  change Code.wp _ _ _ _ (w.alloc (.cells (arr 32 fun _ => bv 0) 26))
  generalize w.alloc (.cells (arr 32 fun _ => bv 0) 26) = w1 at *
  have HR0 := Lib.hid hr0
  have HF0 := Lib.hid hf0
  clear hr0 hf0
  go_wp2_with fail
  refine (HC.out w1 HF0.out).mono ?_
  rintro _ w9 ⟨rfl, hf⟩
  obtain ⟨wy, hrun, hy, hfy⟩ := run_storeRow (P := Tryd.prog) (HR0.out.frm' hf) (cs := arr 32 (shaAt mt)) (by rw [arr_size, arr_size]) (one_arr fun i _ => rfl)
  have HY := Lib.hid hy
  have HFY : Hid (Frm noB w wy) := Lib.hid ((HF0.out.trans' hf).trans hfy fun k hk h => by have h : k = w.heap.size := h; omega)
  have HRUN2 := Lib.hid hrun
  clear hy hfy hf hrun
  try dsimp only
  go_wp2_with (refine wpList_storeRow rfl _ _ _ rfl rfl w.heap.size rfl _ rfl (size_arr _ _) HRUN2.out ?_)
  exact bodyPost_ret (v := .agg (arr 32 (shaAt mt))) (results_cell_row rfl _ _ w.heap.size 26 _ (0, 0) _ rfl HY.out Tryd.underlying26 rfl (by rw [arr_size]; kernel_rfl)) rfl ⟨rfl, HFY.out⟩

/-- the error of a length -/
def wrongI (n most : Int) : Int := if n < 0 then 2 else if most < n then 3 else 0
theorem wrong_any (w : World) (n most : Int) (e : Int) (he : wrongI n most = e) : Calls Tryd.prog 49 #[.int .i64 n, .int .i64 most] w fun r w' => r = .returned (.int .i64 e) ∧ w = w' := by
  subst he
  by_cases h1 : n < 0
  · have h : wrongI n most = 2 := if_pos h1
    rw [h]
    clear h
    go_enter Tryd.func49, Tryd.ntmps49
    go_wp2
    go_ret
    exact ⟨rfl, rfl⟩
  · by_cases h2 : most < n
    · have h : wrongI n most = 3 := by unfold wrongI; rw [if_neg h1, if_pos h2]
      rw [h]
      clear h
      go_enter Tryd.func49, Tryd.ntmps49
      go_wp2
      go_ret
      exact ⟨rfl, rfl⟩
    · have h : wrongI n most = 0 := by unfold wrongI; rw [if_neg h1, if_neg h2]
      rw [h]
      clear h
      go_enter Tryd.func49, Tryd.ntmps49
      go_wp2
      go_ret
      exact ⟨rfl, rfl⟩
end Go.Proofs.YtkhakddecmgejaaDoor
