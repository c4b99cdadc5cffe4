/-
  Sum of a hash.
-/
import Derived.Test.YtkhakddecmgejaaDoorWrite
import Derived.Deep.DeepCutAuto
namespace Go.Proofs.YtkhakddecmgejaaDoor
open Go.RowKit
set_option linter.unusedVariables false
set_option linter.unusedSimpArgs false

/-- the byte number i of a number in eight bytes -/
def byteOf (l i : Nat) : UInt8 := UInt8.ofNat (l >>> (56 - 8 * i))
/-- the padding, when k bytes of the length have been laid -/
def padB (n l k j : Nat) : UInt8 := if j = 0 then 0x80 else if n ≤ j ∧ j < n + k then byteOf l (j - n) else 0
theorem byte_val (l e : Nat) : Value.int .u8 (8 * (l : Int) / 2 ^ e % 256) = bv (UInt8.ofNat ((8 * l) >>> e)) := by
  unfold bv
  rw [UInt8.toNat_ofNat', Nat.shiftRight_eq_div_pow, show (2 : Nat) ^ 8 = 256 from rfl, Int.natCast_emod, Int.natCast_ediv, Int.natCast_mul, Int.natCast_pow]
  rfl
theorem word_byte (x : UInt32) (e : Nat) (he : e < 32) : Value.int .u8 (u x / 2 ^ e % 256) = bv (x >>> UInt32.ofNat e).toUInt8 := by
  rw [u_shr x e he]
  unfold bv u
  rw [UInt32.toNat_toUInt8, show (2 : Nat) ^ 8 = 256 from rfl, Int.natCast_emod]
  rfl
theorem pad_list {m : List UInt8} {n q : Nat} (hq : m.length % 64 = q) (h1 : q < 56 → n = 56 - q) (h2 : 56 ≤ q → n = 120 - q) (hn : 1 ≤ n) : m ++ (List.range (n + 8)).map (padB n (8 * m.length) 8) = pad m := by
  have hz : zs m.length = n - 1 := by unfold zs; omega
  unfold pad
  rw [List.append_assoc]
  congr 1
  apply List.ext_getElem
  · simp [be8, hz]; omega
  · intro i hi hi'
    simp only [List.length_map, List.length_range] at hi
    simp only [List.getElem_map, List.getElem_range]
    unfold padB
    by_cases e : i = 0
    · subst e; simp
    · rw [if_neg e]
      by_cases e2 : n ≤ i
      · rw [if_pos ⟨e2, hi⟩, List.getElem_append_right (by simp [hz]; omega)]
        simp only [be8, List.getElem_map, List.getElem_range, List.length_cons, List.length_replicate, hz, byteOf]
        rw [show i - (n - 1 + 1) = i - n by omega]
      · rw [if_neg (by omega), List.getElem_append_left (by simp [hz]; omega)]
        rw [List.getElem_cons, dif_neg e]
        simp
/-- a list of bytes as an array's value -/
def hashV (l : List UInt8) : Value := .agg (l.map bv).toArray

def shaAt (m : List UInt8) (i : Nat) : Value := bv ((sha m).getD i 0)
theorem sha_arr (m : List UInt8) : Value.agg (arr 32 (shaAt m)) = hashV (sha m) := by
  refine congrArg Value.agg ?_
  apply Array.ext_getElem?
  intro i
  have hl := sha_length m
  by_cases h : i < 32
  · rw [arr_at h]
    simp [shaAt, hl, h]
  · simp [arr, hl, h]

set_option maxRecDepth 100000 in
set_option maxHeartbeats 4000000 in
theorem sum_any (w : World) (b : Nat) (m : List UInt8) (hT : TabOk w) (hI : IsH w b m) (hm : HLen m.length) :
    Calls Tryd.prog 26 #[.pointer (some ⟨b, 0, none⟩)] w fun e w' => e = .returned (.agg (arr 32 (shaAt m))) ∧ Frm noB w w' := by
  have HT := Lib.hid hT
  have HI := Lib.hid hI
  have hlt := hI.lt
  have hts := hT.size
  unfold HLen at hm
  clear hT hI
  go_enter Tryd.func26, Tryd.ntmps26
  go_upto_region 1 with fail
  have hr0 : Blk (w.alloc (.cells (arr 32 fun _ => bv 0) 26)) w.heap.size 26 (arr 32 fun _ => bv 0) := Blk.new _ _ _
  have hf0 : Frm noB w (w.alloc (.cells (arr 32 fun _ => bv 0) 26)) := (Frm.refl _ _).alloc _
  change Code.wp _ _ _ _ (w.alloc (.cells (arr 32 fun _ => bv 0) 26))
  generalize w.alloc (.cells (arr 32 fun _ => bv 0) 26) = w1 at *
  obtain ⟨st, bl, hb, hk, h2⟩ := (HI.out.frm' hf0)
  have HR0 := Lib.hid hr0
  have HF0 := Lib.hid hf0
  have hs1 : w.heap.size < w1.heap.size := hr0.lt
  have HB := Lib.hid hb
  have HK := Lib.hid hk
  clear hr0 hf0 hb hk
  obtain ⟨w2, hrun, hb2, hf2⟩ := run_storeRow (P := Tryd.prog) (w := w1.alloc (.cells Tryd.zeroCells97 97)) (Blk.new _ _ _) (cs := arr 74 (hf st bl (m.length % 64) m.length)) (by rw [arr_size]; kernel_rfl) (one_arr fun i _ => one_hf _ _ _ _ i)
  have HB2 := Lib.hid hb2
  have HF2 := Lib.hid (((Frm.refl noB w1).alloc (.cells Tryd.zeroCells97 97)).trans hf2 fun k hk h => by have h : k = w1.heap.size := h; omega)
  clear hb2 hf2
  go_upto_region 4 with (refine wpList_load_row rfl _ _ rfl b rfl 97 _ (0, 0) _ HB.out Tryd.underlying97 rfl (by rw [arr_size]; kernel_rfl) ?_)
  go_upto_region 5 with fail
  have hp : Blk (w2.alloc (.cells (arr 128 fun _ => bv 0) 98)) w2.heap.size 98 (arr 128 fun _ => bv 0) := Blk.new _ _ _
  have hf3 : Frm noB w2 (w2.alloc (.cells (arr 128 fun _ => bv 0) 98)) := (Frm.refl _ _).alloc _
  change Code.wp _ _ _ _ (w2.alloc (.cells (arr 128 fun _ => bv 0) 98))
  generalize w2.alloc (.cells (arr 128 fun _ => bv 0) 98) = w3 at *
  have HP3 := Lib.hid hp
  have HF3 := Lib.hid hf3
  have hs2 : w1.heap.size < w2.heap.size := HB2.out.lt
  have p0 : w3.cell? ⟨w2.heap.size, 0, none⟩ = some (.int .u8 0) := hp.at_ (i := 0) (by decide)
  have p1 := hp.frozen 0
  clear hp hf3
  go_upto_region 6 with fail
  have hp4 := HP3.out.put 0 (bv 0x80)
  have hf4 : Frm noB w2 (w3.setCell ⟨w2.heap.size, 0, none⟩ (bv 0x80)) := HF3.out.setCell (.inr (Nat.le_refl _)) _
  change Code.wp _ _ _ _ (w3.setCell ⟨w2.heap.size, 0, none⟩ (bv 0x80))
  generalize w3.setCell ⟨w2.heap.size, 0, none⟩ (bv 0x80) = w4 at *
  have HP4 := Lib.hid hp4
  have HF4 := Lib.hid hf4
  clear hp4 hf4 p0 p1 HP3 HF3
  obtain ⟨q, hq⟩ : ∃ q, m.length % 64 = q := ⟨_, rfl⟩
  have hq64 : q < 64 := by omega
  have HQ := Lib.hid hq
  have HB4 : Hid (Blk w4 w1.heap.size 97 (arr 74 (hf st bl q m.length))) := Lib.hid (by have := HB2.out.frm' HF4.out; rw [← hq]; exact this)
  have d72 : w4.cell? ⟨w1.heap.size, 72, none⟩ = some (.int .i64 (q : Int)) := HB4.out.at_ (i := 72) (by decide)
  have d73 : w4.cell? ⟨w1.heap.size, 73, none⟩ = some (.int .u64 m.length) := HB4.out.at_ (i := 73) (by decide)
  clear hq
  go_upto_if 21 with fail
  go_cut [5] (fun v wx => (∃ n : Nat, v = .int .i64 n ∧ 1 ≤ n ∧ n ≤ 64 ∧ (q < 56 → n = 56 - q) ∧ (56 ≤ q → n = 120 - q)) ∧ wx = w4)
  case first =>
    by_cases h56 : q < 56
    · go_wp2_with fail
      go_meet
      exact ⟨⟨56 - q, by congr 1; omega, by omega, by omega, fun _ => rfl, fun h => absurd h (by omega)⟩, rfl⟩
    · go_wp2_with fail
      go_meet
      exact ⟨⟨120 - q, by congr 1; omega, by omega, by omega, fun h => absurd h h56, fun _ => rfl⟩, rfl⟩
  case rest =>
    obtain ⟨⟨n, rfl, hn1, hn2, hn3, hn4⟩, hwc⟩ := hcut
    rw [hwc]
    clear hwc
    have HN := Lib.hid (show (q < 56 → n = 56 - q) ∧ (56 ≤ q → n = 120 - q) from ⟨hn3, hn4⟩)
    clear hn3 hn4
    go_wp2_with fail
    go_loopw [27] (fun i wr => ∃ k : Nat, k ≤ 8 ∧ i = .int .i64 k ∧ Blk wr w2.heap.size 98 (arr 128 fun i => bv (padB n (8 * m.length) k i)) ∧ Frm noB w2 wr) (fun i _ => 8 - (intOf i).toNat)
    case atStart =>
      refine ⟨0, by omega, rfl, HP4.out.same fun i _ => ?_, HF4.out⟩
      unfold padB
      by_cases e : i = 0
      · rw [if_pos e, if_pos e]
      · rw [if_neg e, if_neg e, if_neg (by omega)]
    case round =>
      clear HP4 HF4 HB4 d72 d73
      obtain ⟨k, hk, rfl, hB, hF⟩ := hrel
      have HB := Lib.hid hB
      have HF := Lib.hid hF
      clear hB hF
      by_cases hlt : k < 8
      · have c0 := HB.out.at_ (i := n + k) (by omega)
        have z0 := HB.out.frozen (n + k)
        go_wp2_with fail
        refine ⟨⟨k + 1, by omega, by go_num, ?_, HF.out.setCell (.inr (Nat.le_refl _)) _⟩, by simp [intOf]; omega⟩
        rw [byte_val]
        refine (HB.out.put (n + k) _).same fun i _ => ?_
        unfold padB
        by_cases e : i = n + k
        · subst e
          rw [if_pos rfl, if_neg (by omega), if_pos (by omega), show n + k - n = k by omega]
          rfl
        · rw [if_neg e]
          by_cases e0 : i = 0
          · rw [if_pos e0, if_pos e0]
          · rw [if_neg e0, if_neg e0]
            by_cases e2 : n ≤ i ∧ i < n + k
            · rw [if_pos e2, if_pos (by omega)]
            · rw [if_neg e2, if_neg (by omega)]
      · have e : k = 8 := by omega
        subst e
        have hI2 : IsH wr w1.heap.size m := IsH.frm' ⟨st, bl, HB2.out, HK.out, by omega⟩ HF.out
        have HI2 := Lib.hid hI2
        have hxl : ((List.range (n + 8)).map (padB n (8 * m.length) 8)).length = n + 8 := by simp
        have hrd : Rd wr (some ⟨w2.heap.size, 0, none⟩) (((List.range (n + 8)).map (padB n (8 * m.length) 8)).map bv) := fun i hi => by
          simp only [List.length_map, List.length_range] at hi
          refine ⟨_, _, rfl, ?_⟩
          rw [Nat.zero_add, HB.out.at_ (by omega)]
          simp
        have hw := write_any wr w1.heap.size m (some ⟨w2.heap.size, 0, none⟩) ((List.range (n + 8)).map (padB n (8 * m.length) 8)) 128 (HT.out.frm' ((HF0.out.trans' HF2.out).trans' HF.out)) hI2 hrd (fun _ q ⟨a, ha, hq⟩ => by cases ha; simp at hq; omega) (by rw [hxl]; omega) hm (by rw [hxl]; unfold HLen; omega)
        rw [hxl] at hw
        have HW := Lib.hid hw
        have HPAD := Lib.hid (pad_list HQ.out HN.out.1 HN.out.2 hn1)
        clear hw hrd hxl hI2 hk
        have hn8 : 0 ≤ (n : Int) + 8 ∧ (n : Int) + 8 ≤ 128 ∧ n + 8 ≤ 128 := by omega
        have hn8' : ((n : Int) + 8).toNat = n + 8 := by omega
        go_wp2_with fail
        refine HW.out.mono ?_
        rintro _ w9 ⟨rfl, hI9, hf9⟩
        rw [HPAD.out] at hI9
        obtain ⟨st9, bl9, hb9, hk9, _⟩ := hI9
        have HB9 := Lib.hid hb9
        have HK9 := Lib.hid hk9
        have HF9 : Hid (Frm noB w1 w9) := Lib.hid ((HF2.out.trans' HF.out).trans hf9 fun k hk h => by have h : k = w1.heap.size := h; omega)
        have HR9 := Lib.hid (HR0.out.frm' HF9.out)
        have hs9 := HF9.out.size
        have hlt9 := hb9.lt
        clear hb9 hk9 hf9
        try dsimp only
        go_upto_region 17 with fail
        have ho : Blk (w9.alloc (.cells (arr 32 fun _ => bv 0) 26)) w9.heap.size 26 (arr 32 fun _ => bv 0) := Blk.new _ _ _
        have hfo : Frm noB w9 (w9.alloc (.cells (arr 32 fun _ => bv 0) 26)) := (Frm.refl _ _).alloc _
        change Code.wp _ _ _ _ (w9.alloc (.cells (arr 32 fun _ => bv 0) 26))
        generalize w9.alloc (.cells (arr 32 fun _ => bv 0) 26) = wa at *
        have HO := Lib.hid ho
        have HFO := Lib.hid hfo
        clear ho hfo
        go_wp2_with fail
        go_loopw [45] (fun i wr => ∃ k : Nat, k ≤ 32 ∧ i = .int .i64 k ∧ Blk wr w9.heap.size 26 (arr 32 fun i => bv (if i < k then (outOf st9).getD i 0 else 0)) ∧ Frm noB w9 wr) (fun i _ => 32 - (intOf i).toNat)
        case atStart => exact ⟨0, by omega, rfl, HO.out.same fun i _ => by rw [if_neg (by omega)], HFO.out⟩
        case round =>
          clear HO HFO HB HF
          obtain ⟨k, hk, rfl, hB, hF⟩ := hrel
          obtain ⟨wx, rfl⟩ : ∃ wx : World, wx = wr := ⟨_, rfl⟩
          have HB := Lib.hid hB
          have HF := Lib.hid hF
          clear hB hF
          by_cases hlt : k < 32
          · have c0 := HB.out.at_ (i := k) hlt
            have z0 := HB.out.frozen k
            have c1 := ((HB9.out.frm' HF.out).at_ (i := k / 4) (by omega)).trans (congrArg some (hf_st (by omega)))
            go_wp2_with fail
            refine ⟨⟨k + 1, by omega, by go_num, ?_, HF.out.setCell (.inr (Nat.le_refl _)) _⟩, by simp [intOf]; omega⟩
            rw [word_byte _ _ (by omega)]
            refine (HB.out.put k _).same fun i hi => ?_
            by_cases e : i = k
            · subst e
              rw [if_pos rfl, if_pos (by omega)]
              congr 1
              simp [outOf, hlt]
            · rw [if_neg e]
              by_cases e2 : i < k
              · rw [if_pos e2, if_pos (by omega)]
              · rw [if_neg e2, if_neg (by omega)]
          · have e : k = 32 := by omega
            subst e
            have hsha : outOf st9 = sha m := by
              unfold sha
              exact outOf_congr HK9.out.st
            have hb32 : Blk wx w9.heap.size 26 (arr 32 (shaAt m)) := HB.out.same fun i hi => by rw [if_pos hi, hsha]; rfl
            have hr32 := HR9.out.frm' HF.out
            obtain ⟨wz, hrun, hz, hfz⟩ := run_storeRow (P := Tryd.prog) hr32 (cs := arr 32 (shaAt m)) (by rw [arr_size, arr_size]) (one_arr fun i _ => rfl)
            have HB32 := Lib.hid hb32
            have HZ := Lib.hid hz
            have HFZ : Hid (Frm noB w wz) := Lib.hid (((HF0.out.trans' HF9.out).trans' HF.out).trans hfz fun k hk h => by have h : k = w.heap.size := h; omega)
            clear hsha hb32 hr32 hz hfz hk
            go_wp2_with (refine wpList_load_row rfl _ _ rfl w9.heap.size rfl 26 _ (0, 0) _ HB32.out Tryd.underlying26 rfl (by rw [arr_size]; kernel_rfl) ?_)
            refine bodyPost_ret (v := .agg (arr 32 (shaAt m))) (results_cell_row rfl _ _ w.heap.size 26 _ (0, 0) _ rfl HZ.out Tryd.underlying26 rfl (by rw [arr_size]; kernel_rfl)) rfl ⟨rfl, HFZ.out⟩
end Go.Proofs.YtkhakddecmgejaaDoor
