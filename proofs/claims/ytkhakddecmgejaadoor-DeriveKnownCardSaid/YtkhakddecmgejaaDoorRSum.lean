/-
  trystref03.Sum: the same digest.
-/
import Derived.Test.YtkhakddecmgejaaDoorRRound
import Derived.Test.YtkhakddecmgejaaDoorPadded
namespace Go.Proofs.YtkhakddecmgejaaDoor
open Go.RowKit
set_option linter.unusedVariables false
set_option linter.unusedSimpArgs false

theorem S8.of_congr {f g : Nat → UInt32} (h : ∀ j, j < 8 → f j = g j) : S8.of f = S8.of g := by
  unfold S8.of
  rw [h 0 (by decide), h 1 (by decide), h 2 (by decide), h 3 (by decide), h 4 (by decide), h 5 (by decide), h 6 (by decide), h 7 (by decide)]
theorem of_step (P : List UInt8) (k : Nat) : S8.of (comp (S8.of (stOf P k)).get (blk P k)) = S8.of (stOf P (k + 1)) :=
  S8.of_congr fun j hj => comp_congr (fun i hi => S8.get_of _ i hi) (fun _ _ => rfl) hj

set_option maxRecDepth 100000 in
set_option maxHeartbeats 4000000 in
theorem rsum_any (w : World) (A : Option Addr) (m : List UInt8) (c : Nat) (hx : Rd w A (m.map bv)) (hl : JLen m.length) :
    Calls Tryd.prog 19 #[.slice A m.length c] w fun e w' => e = .returned (.agg (arr 32 (shaAt m))) ∧ Frm noB w w' := by
  have HX := Lib.hid hx
  have HL := Lib.hid hl
  clear hx
  go_enter Tryd.func19, Tryd.ntmps19
  go_upto_region 1 with fail
  have hr0 : Blk (w.alloc (.cells (arr 32 fun _ => bv 0) 26)) w.heap.size 26 (arr 32 fun _ => bv 0) := Blk.new _ _ _
  have hf0 : Frm noB w (w.alloc (.cells (arr 32 fun _ => bv 0) 26)) := (Frm.refl _ _).alloc _
  change Code.wp _ _ _ _ (w.alloc (.cells (arr 32 fun _ => bv 0) 26))
  generalize w.alloc (.cells (arr 32 fun _ => bv 0) 26) = w1 at *
  have HR0 := Lib.hid hr0
  have HF0 := Lib.hid hf0
  have hs1 : w.heap.size < w1.heap.size := hr0.lt
  clear hr0 hf0
  go_wp2_with fail
  refine (padded_any w1 A m c (HX.out.frm' HF0.out) hl).mono ?_
  rintro _ w2 ⟨v, rfl, ho, hf2⟩
  obtain ⟨Ap, cp, rfl, hcp⟩ := own_slice ho
  obtain ⟨p, hp⟩ : ∃ p, p = pad m := ⟨_, rfl⟩
  rw [← hp] at ho hcp ⊢
  have hpl : p.length ≤ m.length + 73 := by rw [hp, pad_length]; unfold zs; omega
  have hpm : p.length % 64 = 0 := by rw [hp]; exact pad_mod m
  have hsha : outOf (stOf p (p.length / 64)) = sha m := by rw [hp]; rfl
  have HSHA := Lib.hid hsha
  have HPM := Lib.hid hpm
  have HO := Lib.hid ho
  have HF2 := Lib.hid hf2
  have hpl' : p.length ≤ 1099511627776 + 73 := by unfold JLen at hl; omega
  clear ho hf2 hp hsha hpm hpl hl
  try dsimp only
  go_wp2_with fail
  refine (begin_any w2).mono ?_
  rintro _ w3 ⟨rfl, hf3⟩
  obtain ⟨q0, hq0⟩ : ∃ q0, q0 = S8.of h0 := ⟨_, rfl⟩
  rw [← hq0]
  have e0 : q0.val = .agg #[.int .u32 (u q0.a), .int .u32 (u q0.b), .int .u32 (u q0.c), .int .u32 (u q0.d), .int .u32 (u q0.e), .int .u32 (u q0.f), .int .u32 (u q0.g), .int .u32 (u q0.h)] := rfl
  rw [e0]
  have HQ0 := Lib.hid hq0
  have HF3 := Lib.hid (HF2.out.trans' hf3)
  have HO3 := Lib.hid (own_frm' HO.out hf3)
  have HOB : Hid (∀ q, aB Ap q → q < w3.heap.size) := Lib.hid fun q h => Nat.lt_of_lt_of_le (own_lt HO.out q (by obtain ⟨a0, h0, h1⟩ := h; subst h0; subst h1; rfl)).2 hf3.size
  clear hq0 e0 hf3 HO
  try dsimp only
  go_wp2_with fail
  have hb4 : Blk (w3.alloc (.cells (arr 8 (ws q0.get)) 92)) w3.heap.size 92 (arr 8 (ws q0.get)) := Blk.new _ _ _
  have hf4 : Frm noB w3 (w3.alloc (.cells (arr 8 (ws q0.get)) 92)) := (Frm.refl _ _).alloc _
  change Code.wp _ _ _ _ (w3.alloc (.cells (arr 8 (ws q0.get)) 92))
  generalize w3.alloc (.cells (arr 8 (ws q0.get)) 92) = w4 at *
  have HB4 := Lib.hid hb4
  have HF4 := Lib.hid (HF3.out.trans' hf4)
  have HO4 := Lib.hid (Rd.of_own (own_frm' HO3.out hf4))
  have hs4 : w1.heap.size ≤ w3.heap.size := HF3.out.size
  clear hb4 hf4 HO3 HF3
  go_wp2_with fail
  go_loopw [5] (fun v wr => ∃ (k a : Nat) (q : S8), 64 * k ≤ p.length ∧ a = 64 * k ∧ v = .int .i64 a ∧ q = S8.of (stOf p k) ∧ Blk wr w3.heap.size 92 (arr 8 (ws q.get)) ∧ Frm (isB w3.heap.size) w4 wr) (fun v _ => p.length - (intOf v).toNat)
  case atStart => exact ⟨0, 0, q0, Nat.zero_le _, rfl, rfl, HQ0.out, HB4.out, Frm.refl _ _⟩
  case round =>
    clear HB4 HQ0
    obtain ⟨k, a, q, hk, ha, rfl, hq, hB, hF⟩ := hrel
    obtain ⟨wp, rfl⟩ : ∃ wp : World, wp = wr := ⟨_, rfl⟩
    have HA := Lib.hid ha
    have HQ := Lib.hid hq
    have HB := Lib.hid hB
    have HF := Lib.hid hF
    have hak : a ≤ p.length := by omega
    by_cases hlt : a < p.length
    · have hk64 : 64 * k + 64 ≤ p.length := by have := HPM.out; omega
      have d0 : wp.cell? ⟨w3.heap.size, 0, none⟩ = some (.int .u32 (u q.a)) := HB.out.atw (by decide)
      have d1 : wp.cell? ⟨w3.heap.size, 1, none⟩ = some (.int .u32 (u q.b)) := HB.out.atw (by decide)
      have d2 : wp.cell? ⟨w3.heap.size, 2, none⟩ = some (.int .u32 (u q.c)) := HB.out.atw (by decide)
      have d3 : wp.cell? ⟨w3.heap.size, 3, none⟩ = some (.int .u32 (u q.d)) := HB.out.atw (by decide)
      have d4 : wp.cell? ⟨w3.heap.size, 4, none⟩ = some (.int .u32 (u q.e)) := HB.out.atw (by decide)
      have d5 : wp.cell? ⟨w3.heap.size, 5, none⟩ = some (.int .u32 (u q.f)) := HB.out.atw (by decide)
      have d6 : wp.cell? ⟨w3.heap.size, 6, none⟩ = some (.int .u32 (u q.g)) := HB.out.atw (by decide)
      have d7 : wp.cell? ⟨w3.heap.size, 7, none⟩ = some (.int .u32 (u q.h)) := HB.out.atw (by decide)
      have HRD : Hid (Rd wp Ap (p.map bv)) := Lib.hid (HO4.out.frm HF.out fun x hx h => by have h : x = w3.heap.size := h; have := HOB.out x hx; omega)
      clear ha hq hB hF hk
      go_wp2_with fail
      refine (rround_any wp q Ap p cp k a HRD.out HA.out hk64 (by unfold HLen; omega)).mono ?_
      rintro _ w6 ⟨rfl, hf6⟩
      obtain ⟨r, hr⟩ : ∃ r, r = S8.of (comp q.get (blk p k)) := ⟨_, rfl⟩
      rw [← hr]
      have HR : Hid (r = S8.of (stOf p (k + 1))) := Lib.hid (by rw [hr, HQ.out, of_step])
      have HB6 := Lib.hid (HB.out.frm' hf6)
      have HF6 := Lib.hid (HF.out.trans' hf6.any)
      rw [show r.val = .agg #[.int .u32 (u r.a), .int .u32 (u r.b), .int .u32 (u r.c), .int .u32 (u r.d), .int .u32 (u r.e), .int .u32 (u r.f), .int .u32 (u r.g), .int .u32 (u r.h)] from rfl]
      clear hr hf6 d0 d1 d2 d3 d4 d5 d6 d7
      have d0 := HB6.out.atw (i := 0) (by decide)
      have d1 := HB6.out.atw (i := 1) (by decide)
      have d2 := HB6.out.atw (i := 2) (by decide)
      have d3 := HB6.out.atw (i := 3) (by decide)
      have d4 := HB6.out.atw (i := 4) (by decide)
      have d5 := HB6.out.atw (i := 5) (by decide)
      have d6 := HB6.out.atw (i := 6) (by decide)
      have d7 := HB6.out.atw (i := 7) (by decide)
      have z0 := HB6.out.frozen 0
      have z1 := HB6.out.frozen 1
      have z2 := HB6.out.frozen 2
      have z3 := HB6.out.frozen 3
      have z4 := HB6.out.frozen 4
      have z5 := HB6.out.frozen 5
      have z6 := HB6.out.frozen 6
      have z7 := HB6.out.frozen 7
      try dsimp only
      go_wp2_with fail
      clear d0 d1 d2 d3 d4 d5 d6 d7 z0 z1 z2 z3 z4 z5 z6 z7
      refine ⟨⟨k + 1, a + 64, r, by omega, by rw [HA.out]; omega, by go_num, HR.out, HB6.out.put8 r, ?_⟩, by simp [intOf]; omega⟩
      repeat (refine Frm.setCell ?_ (.inl (show isB w3.heap.size w3.heap.size from rfl)) _)
      exact HF6.out
    · have e : a = p.length := by omega
      have hkk : k = p.length / 64 := by omega
      have hst : Hid (∀ j, j < 8 → q.get j = stOf p (p.length / 64) j) := Lib.hid fun j hj => by rw [hq, hkk]; exact S8.get_of _ j hj
      have HFp : Hid (Frm noB w1 wp) := Lib.hid (HF4.out.trans hF fun x hx h => by have h : x = w3.heap.size := h; omega)
      have hltp := hB.lt
      subst e
      clear ha hq hB hF hk hkk hak HF
      go_upto_region 8 with fail
      have ho : Blk (wp.alloc (.cells (arr 32 fun _ => bv 0) 26)) wp.heap.size 26 (arr 32 fun _ => bv 0) := Blk.new _ _ _
      have hfo : Frm noB wp (wp.alloc (.cells (arr 32 fun _ => bv 0) 26)) := (Frm.refl _ _).alloc _
      change Code.wp _ _ _ _ (wp.alloc (.cells (arr 32 fun _ => bv 0) 26))
      generalize wp.alloc (.cells (arr 32 fun _ => bv 0) 26) = wa at *
      have HOo := Lib.hid ho
      have HFO := Lib.hid hfo
      clear ho hfo
      go_wp2_with fail
      go_loopw [7] (fun i wr => ∃ k : Nat, k ≤ 32 ∧ i = .int .i64 k ∧ Blk wr wp.heap.size 26 (arr 32 fun i => bv (if i < k then (outOf q.get).getD i 0 else 0)) ∧ Frm noB wp wr) (fun i _ => 32 - (intOf i).toNat)
      case atStart => exact ⟨0, by omega, rfl, HOo.out.same fun i _ => by rw [if_neg (by omega)], HFO.out⟩
      case round =>
        clear HOo HFO
        obtain ⟨k, hk, rfl, hB, hF⟩ := hrel
        obtain ⟨wx, rfl⟩ : ∃ wx : World, wx = wr := ⟨_, rfl⟩
        have HBx := Lib.hid hB
        have HF := Lib.hid hF
        clear hB hF
        by_cases hlt : k < 32
        · have c0 := HBx.out.at_ (i := k) hlt
          have z0 := HBx.out.frozen k
          have c1 := (HB.out.frm' HF.out).atw (i := k / 4) (by omega)
          go_wp2_with fail
          refine ⟨⟨k + 1, by omega, by go_num, ?_, HF.out.setCell (.inr (Nat.le_refl _)) _⟩, by simp [intOf]; omega⟩
          rw [word_byte _ _ (by omega)]
          refine (HBx.out.put k _).same fun i hi => ?_
          by_cases e : i = k
          · subst e
            rw [if_pos rfl, if_pos (by omega)]
            congr 1
            simp [outOf, hlt]
          · rw [if_neg e]
            by_cases e2 : i < k
            · rw [if_pos e2, if_pos (by omega)]
            · rw [if_neg e2, if_neg (by omega)]
        · have e : k = 32 := by omega
          subst e
          have hsha : outOf q.get = sha m := by rw [← HSHA.out]; exact outOf_congr hst.out
          have hb32 : Blk wx wp.heap.size 26 (arr 32 (shaAt m)) := HBx.out.same fun i hi => by rw [if_pos hi, hsha]; rfl
          have hr32 := HR0.out.frm' (HFp.out.trans' HF.out)
          obtain ⟨wz, hrun, hz, hfz⟩ := run_storeRow (P := Tryd.prog) hr32 (cs := arr 32 (shaAt m)) (by rw [arr_size, arr_size]) (one_arr fun i _ => rfl)
          have HB32 := Lib.hid hb32
          have HZ := Lib.hid hz
          have HFZ : Hid (Frm noB w wz) := Lib.hid (((HF0.out.trans' HFp.out).trans' HF.out).trans hfz fun k hk h => by have h : k = w.heap.size := h; omega)
          clear hsha hb32 hr32 hz hfz hk
          go_wp2_with (refine wpList_load_row rfl _ _ rfl wp.heap.size rfl 26 _ (0, 0) _ HB32.out Tryd.underlying26 rfl (by rw [arr_size]; kernel_rfl) ?_)
          refine bodyPost_ret (v := .agg (arr 32 (shaAt m))) (results_cell_row rfl _ _ w.heap.size 26 _ (0, 0) _ rfl HZ.out Tryd.underlying26 rfl (by rw [arr_size]; kernel_rfl)) rfl ⟨rfl, HFZ.out⟩
end Go.Proofs.YtkhakddecmgejaaDoor
