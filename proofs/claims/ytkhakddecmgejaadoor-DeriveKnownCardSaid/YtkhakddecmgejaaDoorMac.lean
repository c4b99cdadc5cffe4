/-
  derive: New, Write, Sum.
-/
import Derived.Test.YtkhakddecmgejaaDoorMacRef2
import Derived.Test.YtkhakddecmgejaaDoorNilHash
import Derived.Test.YtkhakddecmgejaaDoorLawCopies
import Derived.StillTailTactics
import Derived.Deep.DeepCutAuto
import Derived.Laws.CopyOwn
namespace Go.Proofs.YtkhakddecmgejaaDoor
open Go.RowKit
set_option linter.unusedVariables false
set_option linter.unusedSimpArgs false

theorem run_index64 (w : World) (f : Nat → Value) {k : Nat} (hk : k < 64) : (Instr.index 95 (.agg (arr 64 f)) (.int .i64 (k : Int))).run Tryd.prog w = .ok (f k) w := by
  have h1 : (0 : Int) ≤ (k : Int) ∧ (k : Int) < (64 : Nat) := by omega
  have h2 := arr_at (n := 64) (f := f) hk
  have hag : (isAgg 5).run Tryd.prog w = .ok false w := by kernel_rfl
  unfold Instr.index
  simp only [asIntOf, Sem.run_bind, Sem.run_pure, Result.andThen_ok, run_underlying Tryd.underlying95, sizeOf_u8]
  rw [if_pos h1]
  simp [part, hag, h2, sizeOf_u8]
/-- block mm is a Mac under a key, which has taken a text; b: its hash -/
structure IsMac (w : World) (mm b : Nat) (key text : List UInt8) : Prop where
  blk : Blk w mm 100 (arr 65 fun i => if i = 0 then .pointer (some ⟨b, 0, none⟩) else bv ((turned 0x5c (padKey key)).getD (i - 1) 0))
  hash : IsH w b (macIn key text)
theorem IsMac.frm {S : Nat → Prop} {w w' : World} {mm b : Nat} {key text : List UInt8} (h : IsMac w mm b key text) (hf : Frm S w w') (hm : ¬ S mm) (hb : ¬ S b) : IsMac w' mm b key text := ⟨h.blk.frm hf hm, h.hash.frm hf hb⟩
theorem IsMac.frm' {w w' : World} {mm b : Nat} {key text : List UInt8} (h : IsMac w mm b key text) (hf : Frm noB w w') : IsMac w' mm b key text := h.frm hf (fun h => h) (fun h => h)
theorem IsMac.ne {w : World} {mm b : Nat} {key text : List UInt8} (h : IsMac w mm b key text) : mm ≠ b := by
  obtain ⟨st, bl, h1, _⟩ := h.hash
  exact h.blk.ne_ h1 (by decide)
theorem write_n (w : World) (b : Nat) (m : List UInt8) (A : Option Addr) (xs : List UInt8) (n c : Nat) (hn : xs.length = n) (hT : TabOk w) (hI : IsH w b m) (hx : Rd w A (xs.map bv)) (hA : xs ≠ [] → ∀ q, aB A q → q ≠ b) (hc : n ≤ c) (hm : HLen m.length) (hl : HLen n) :
    Calls Tryd.prog 24 #[.pointer (some ⟨b, 0, none⟩), .slice A n c] w fun e w' => e = .returned (.tuple #[.int .i64 n, Value.nilIface]) ∧ IsH w' b (m ++ xs) ∧ Frm (isB b) w w' := by
  subst hn
  exact write_any w b m A xs c hT hI hx hA hc hm hl
theorem getD_bv (l : List UInt8) {i : Nat} (h : i < l.length) : (l.map bv).getD i undef = bv (l.getD i 0) := by simp [List.getD, h]
theorem pad_at (key : List UInt8) (i : Nat) : (padKey key).getD i 0 = if i < (shortKey key).length then (shortKey key).getD i 0 else 0 := by
  unfold padKey
  by_cases h : i < (shortKey key).length
  · rw [if_pos h]; simp [List.getD, List.getElem?_append_left h]
  · rw [if_neg h]
    simp only [List.getD_eq_getElem?_getD]
    rw [List.getElem?_append_right (by omega), List.getElem?_replicate]
    split <;> rfl
theorem turned_at (c : UInt8) (l : List UInt8) {i : Nat} (h : i < l.length) : (turned c l).getD i 0 = l.getD i 0 ^^^ c := by simp [turned, List.getD, h]

theorem hH_ne {w : World} {ib b : Nat} {t : Array Value} {m : List UInt8} (h : Blk w ib 95 t) (hI : IsH w b m) : ib ≠ b := by
  obtain ⟨st, bl, h1, _⟩ := hI
  exact h.ne_ h1 (by decide)
set_option maxRecDepth 100000 in
set_option maxHeartbeats 4000000 in
theorem newmac_any (w : World) (A : Option Addr) (key : List UInt8) (cap : Nat) (hT : TabOk w) (hx : Rd w A (key.map bv)) (hc : key.length ≤ cap) (hl : key.length ≤ 1000000000) :
    Calls Tryd.prog 34 #[.slice A key.length cap] w fun e w' => ∃ mm b, e = .returned (.pointer (some ⟨mm, 0, none⟩)) ∧ w.heap.size ≤ mm ∧ w.heap.size ≤ b ∧ IsMac w' mm b key [] ∧ Frm noB w w' := by
  have HT := Lib.hid hT
  have HX := Lib.hid hx
  have h2w := hT.size
  clear hT hx
  go_enter Tryd.func34, Tryd.ntmps34
  go_upto_if 11 with fail
  have hr0 : Blk (w.alloc (.cells (arr 64 fun _ => bv 0) 95)) w.heap.size 95 (arr 64 fun _ => bv 0) := Blk.new _ _ _
  have hf0 : Frm noB w (w.alloc (.cells (arr 64 fun _ => bv 0) 95)) := (Frm.refl _ _).alloc _
  change Code.wp _ _ _ _ (w.alloc (.cells (arr 64 fun _ => bv 0) 95))
  generalize w.alloc (.cells (arr 64 fun _ => bv 0) 95) = w1 at *
  have HR0 := Lib.hid hr0
  have HF0 := Lib.hid hf0
  have hs1 : w.heap.size < w1.heap.size := hr0.lt
  clear hr0 hf0
  go_cut [3] (fun v wx => v = .pointer (some ⟨w.heap.size, 0, none⟩) ∧ Blk wx w.heap.size 95 (arr 64 fun i => bv ((padKey key).getD i 0)) ∧ Frm noB w wx)
  case first =>
    by_cases h64 : 64 < key.length
    · have hsk : shortKey key = sha key := if_pos h64
      have HSK := Lib.hid hsk
      clear hsk
      go_wp2_with fail
      refine (dsum1 w1 A key cap (HT.out.frm' HF0.out) (HX.out.frm' HF0.out) hc (by unfold HLen; omega)).mono ?_
      rintro _ w3 ⟨rfl, hf⟩
      obtain ⟨wz, hrun, hz', hfz⟩ := run_storeRow (P := Tryd.prog) (w := w3.alloc (.cells #[.int .u8 0, .int .u8 0, .int .u8 0, .int .u8 0, .int .u8 0, .int .u8 0, .int .u8 0, .int .u8 0, .int .u8 0, .int .u8 0, .int .u8 0, .int .u8 0, .int .u8 0, .int .u8 0, .int .u8 0, .int .u8 0, .int .u8 0, .int .u8 0, .int .u8 0, .int .u8 0, .int .u8 0, .int .u8 0, .int .u8 0, .int .u8 0, .int .u8 0, .int .u8 0, .int .u8 0, .int .u8 0, .int .u8 0, .int .u8 0, .int .u8 0, .int .u8 0] 26)) (Blk.new _ _ _) (cs := arr 32 (shaAt key)) (by rw [arr_size]; rfl) (one_arr fun i _ => rfl)
      have HZ := Lib.hid hz'.hashRd
      have hfz1 : Frm noB w1 wz := hf.trans' (((Frm.refl noB w3).alloc (.cells #[.int .u8 0, .int .u8 0, .int .u8 0, .int .u8 0, .int .u8 0, .int .u8 0, .int .u8 0, .int .u8 0, .int .u8 0, .int .u8 0, .int .u8 0, .int .u8 0, .int .u8 0, .int .u8 0, .int .u8 0, .int .u8 0, .int .u8 0, .int .u8 0, .int .u8 0, .int .u8 0, .int .u8 0, .int .u8 0, .int .u8 0, .int .u8 0, .int .u8 0, .int .u8 0, .int .u8 0, .int .u8 0, .int .u8 0, .int .u8 0, .int .u8 0, .int .u8 0] 26)).trans hfz fun k hk h => by have h : k = w3.heap.size := h; omega)
      have HFZ := Lib.hid hfz1
      have HRUN := Lib.hid hrun
      have HB := Lib.hid (HR0.out.frm' hfz1)
      clear hf hz' hfz hrun hfz1
      try dsimp only
      go_wp2_with (refine wpList_storeRow rfl _ _ _ rfl rfl w3.heap.size rfl _ rfl (size_arr _ _) HRUN.out ?_)
      go_still_tail 2, (by kernel_rfl)
      change wpList _ _ _ _ _ wz.drew
      refine copyAt rfl _ _ rfl Tryd.underlying29 (by kernel_rfl) rfl rfl (cs := (sha key).map bv) (by rw [List.length_map, sha_length]; rfl) HZ.out.drew (by rw [List.length_map, sha_length]; omega) (bv_one _) HB.out.drew (by rw [List.length_map, sha_length]; omega) ?_
      intro w4 hb4 hf4
      have HB4 : Hid (Blk w4 w.heap.size 95 (arr 64 fun i => bv ((padKey key).getD i 0))) := Lib.hid (hb4.same fun i hi => by
        rw [pad_at, HSK.out, List.length_map, sha_length]
        by_cases e : i < 32
        · rw [if_pos ⟨by omega, by omega⟩, if_pos e, Nat.sub_zero, getD_bv _ (by rw [sha_length]; exact e)]
        · rw [if_neg (by omega), if_neg e])
      have HF4 : Hid (Frm noB w w4) := Lib.hid ((HF0.out.trans' (HFZ.out.drew)).trans hf4 fun k hk h => by have h : k = w.heap.size := h; omega)
      clear hb4 hf4
      go_wp2_with fail
      go_meet
      exact ⟨rfl, HB4.out, HF4.out⟩
    · have hsk : shortKey key = key := if_neg h64
      have HSK := Lib.hid hsk
      clear hsk
      by_cases h0 : key.length = 0
      · have HB4 : Hid (Blk w1 w.heap.size 95 (arr 64 fun i => bv ((padKey key).getD i 0))) := Lib.hid (HR0.out.same fun i hi => by
          rw [pad_at, HSK.out, if_neg (by omega)])
        have H0 := Lib.hid h0
        clear h0
        go_wp2_with (refine wpList_copy_nothing rfl _ _ _ _ rfl _ Tryd.underlying29 (by kernel_rfl) _ _ _ _ _ _ rfl rfl (by rw [H0.out]; rfl) ?_)
        go_meet
        exact ⟨rfl, HB4.out, HF0.out⟩
      · have hmin : Nat.min key.length 64 = key.length := Nat.min_eq_left (by omega)
        have HMIN := Lib.hid hmin
        clear hmin
        go_wp2_with (refine copyAt rfl _ _ rfl Tryd.underlying29 (by kernel_rfl) rfl rfl (cs := key.map bv) (by rw [List.length_map, HMIN.out]) (HX.out.frm' HF0.out) (by rw [List.length_map]; omega) (bv_one _) HR0.out (by rw [List.length_map]; omega) ?_; intro w4 hb4 hf4; have HB5 := Lib.hid hb4; have HF5 := Lib.hid hf4; clear hb4 hf4)
        go_meet
        refine ⟨rfl, HB5.out.same fun i hi => ?_, HF0.out.trans HF5.out fun k hk h => by have h : k = w.heap.size := h; omega⟩
        rw [pad_at, HSK.out, List.length_map]
        by_cases e : i < key.length
        · rw [if_pos ⟨by omega, by omega⟩, if_pos e, Nat.sub_zero, getD_bv _ e]
        · rw [if_neg (by omega), if_neg e]
  case rest =>
    obtain ⟨rfl, hB, hF⟩ := hcut
    obtain ⟨pd, hpd⟩ : ∃ pd, pd = padKey key := ⟨_, rfl⟩
    have HPD := Lib.hid hpd
    have HPL : Hid (pd.length = 64) := Lib.hid (by rw [hpd]; exact padKey_length key)
    rw [← hpd] at hB
    obtain ⟨fr, hfr⟩ : ∃ fr : Nat → Value, ∀ i, fr i = bv (pd.getD i 0) := ⟨_, fun _ => rfl⟩
    have HFR := Lib.hid hfr
    have HB : Hid (Blk wc w.heap.size 95 (arr 64 fr)) := Lib.hid (hB.same fun i _ => (hfr i).symm)
    clear hfr
    have HF := Lib.hid hF
    clear hB hF hpd HR0 HF0
    go_wp2_with fail
    refine (new_any wc (HT.out.frm' HF.out)).mono ?_
    rintro _ w2 ⟨b, rfl, hb, hI, hf⟩
    have HI := Lib.hid hI
    have HF2 := Lib.hid (HF.out.trans' hf)
    have HB2 := Lib.hid (HB.out.frm' hf)
    have hcw := HF.out.size
    have hc2 := hf.size
    clear hI hf HB
    try dsimp only
    go_upto_region 7 with fail
    have hm0 : Blk (w2.alloc (.cells (arr 65 fun i => if i = 0 then .pointer (some ⟨b, 0, none⟩) else bv 0) 100)) w2.heap.size 100 (arr 65 fun i => if i = 0 then .pointer (some ⟨b, 0, none⟩) else bv 0) := Blk.new _ _ _
    have hf3 : Frm noB w2 (w2.alloc (.cells (arr 65 fun i => if i = 0 then .pointer (some ⟨b, 0, none⟩) else bv 0) 100)) := (Frm.refl _ _).alloc _
    change Code.wp _ _ _ _ (w2.alloc (.cells (arr 65 fun i => if i = 0 then .pointer (some ⟨b, 0, none⟩) else bv 0) 100))
    generalize w2.alloc (.cells (arr 65 fun i => if i = 0 then .pointer (some ⟨b, 0, none⟩) else bv 0) 100) = w3 at *
    have HM3 := Lib.hid hm0
    have HF3 := Lib.hid hf3
    have hm3 := hm0.lt
    clear hm0 hf3
    go_upto_region 8 with fail
    have hi0 : Blk (w3.alloc (.cells (arr 64 fun _ => bv 0) 95)) w3.heap.size 95 (arr 64 fun _ => bv 0) := Blk.new _ _ _
    have hf4 : Frm noB w3 (w3.alloc (.cells (arr 64 fun _ => bv 0) 95)) := (Frm.refl _ _).alloc _
    change Code.wp _ _ _ _ (w3.alloc (.cells (arr 64 fun _ => bv 0) 95))
    generalize w3.alloc (.cells (arr 64 fun _ => bv 0) 95) = w4 at *
    generalize hmm : w2.heap.size = mm at *
    generalize hib : w3.heap.size = ib at *
    have HI4 := Lib.hid hi0
    have HM4 := Lib.hid (HM3.out.frm' hf4)
    have HF4 : Hid (Frm noB w w4) := Lib.hid (HF2.out.trans' (HF3.out.trans' hf4))
    have HH4 := Lib.hid (HI.out.frm' (HF3.out.trans' hf4))
    have HB4 := Lib.hid (HB2.out.frm' (HF3.out.trans' hf4))
    have hbm : b < mm := by rw [← hmm]; exact HI.out.lt
    have hwm : w.heap.size ≤ mm := by omega
    clear hi0 hf4 HI HM3 HF3 HB2 HF2 hmm hib
    go_wp2_with (refine wpList_load_row rfl _ _ rfl w.heap.size rfl 95 _ (0, 0) _ HB4.out Tryd.underlying95 rfl (by rw [arr_size]; kernel_rfl) ?_)
    go_loopw [25] (fun i wr => ∃ k : Nat, k ≤ 64 ∧ i = .int .i64 k ∧ Blk wr mm 100 (arr 65 fun i => if i = 0 then .pointer (some ⟨b, 0, none⟩) else if i ≤ k then bv ((turned 0x5c pd).getD (i - 1) 0) else bv 0) ∧ Blk wr ib 95 (arr 64 fun i => if i < k then bv ((turned 0x36 pd).getD i 0) else bv 0) ∧ IsH wr b [] ∧ Frm noB w wr) (fun i _ => 64 - (intOf i).toNat)
    case atStart =>
      refine ⟨0, Nat.zero_le _, rfl, HM4.out.same fun i hi => ?_, HI4.out.same fun i hi => ?_, HH4.out, HF4.out⟩
      · by_cases e : i = 0
        · rw [if_pos e, if_pos e]
        · rw [if_neg e, if_neg e, if_neg (by omega)]
      · rw [if_neg (by omega)]
    case round =>
      clear HM4 HI4 HH4 HF4 HB4
      obtain ⟨k, hk, rfl, hM, hI, hH, hF⟩ := hrel
      have HM := Lib.hid hM
      have HI := Lib.hid hI
      have HH := Lib.hid hH
      have HF := Lib.hid hF
      clear hH hF
      by_cases hlt : k < 64
      · have hix : ∀ w, (Instr.index 95 (.agg (arr 64 fr)) (.int .i64 (k : Int))).run Tryd.prog w = .ok (.int .u8 ((pd.getD k 0).toNat : Int)) w := fun w => by rw [run_index64 w fr hlt, HFR.out]; rfl
        have hx1 := bv_xor (pd.getD k 0) 0x36
        have hx2 := bv_xor (pd.getD k 0) 0x5c
        have HT1 := Lib.hid (turned_at 0x36 pd (i := k) (by rw [HPL.out]; exact hlt))
        have HT2 := Lib.hid (turned_at 0x5c pd (i := k) (by rw [HPL.out]; exact hlt))
        rw [show ((0x36 : UInt8).toNat : Int) = 54 from rfl] at hx1
        rw [show ((0x5c : UInt8).toNat : Int) = 92 from rfl] at hx2
        have c0 : wr.cell? ⟨ib, k, none⟩ = some (bv 0) := by rw [hI.at_ hlt, if_neg (by omega)]
        have c1 : wr.cell? ⟨mm, 1 + k, none⟩ = some (bv 0) := by rw [hM.at_ (by omega), if_neg (by omega), if_neg (by omega)]
        have z0 := hI.frozen k
        have z1 := hM.frozen (1 + k)
        have hne : ib ≠ mm := hI.ne_ hM (by decide)
        have HNE := Lib.hid hne
        clear hI hM
        generalize pd.getD k 0 = x at *
        have HX1 := Lib.hid hx1
        go_wp2_with fail
        have e1 : Value.int .u8 ((x.toNat ^^^ 54 : Nat) : Int) = bv (x ^^^ 0x36) := by unfold bv; rw [UInt8.toNat_xor]; rfl
        have e2 : Value.int .u8 ((x.toNat ^^^ 92 : Nat) : Int) = bv (x ^^^ 0x5c) := by unfold bv; rw [UInt8.toNat_xor]; rfl
        rw [e1, e2]
        have hs : Frm (fun q => q = ib ∨ q = mm) wr ((wr.setCell ⟨ib, k, none⟩ (bv (x ^^^ 0x36))).setCell ⟨mm, 1 + k, none⟩ (bv (x ^^^ 0x5c))) :=
          Frm.setCell (S := fun q => q = ib ∨ q = mm) (Frm.setCell (S := fun q => q = ib ∨ q = mm) (Frm.refl _ _) (Or.inl (Or.inl rfl)) _) (Or.inl (Or.inr rfl)) _
        have hib := hH_ne HI.out HH.out
        refine ⟨⟨k + 1, by omega, by go_num, ?_, ?_, HH.out.frm hs (fun h => by rcases h with h | h <;> omega), HF.out.trans hs fun q hq h => by rcases h with h | h <;> omega⟩, by simp [intOf]; omega⟩
        · refine ((HM.out.far (p := ⟨ib, k, none⟩) (fun h => HNE.out h.symm) _).put (1 + k) _).same fun i hi => ?_
          by_cases q : i = 1 + k
          · subst q
            rw [if_pos rfl, if_neg (by omega), if_pos (by omega), Nat.add_sub_cancel_left, HT2.out]
          · rw [if_neg q]
            by_cases q0 : i = 0
            · rw [if_pos q0, if_pos q0]
            · rw [if_neg q0, if_neg q0]
              by_cases q1 : i ≤ k
              · rw [if_pos q1, if_pos (by omega)]
              · rw [if_neg q1, if_neg (by omega)]
        · refine Blk.far (p := ⟨mm, 1 + k, none⟩) ((HI.out.put k _).same fun i hi => ?_) HNE.out _
          by_cases q : i = k
          · subst q
            rw [if_pos rfl, if_pos (by omega), HT1.out]
          · rw [if_neg q]
            by_cases q1 : i < k
            · rw [if_pos q1, if_pos (by omega)]
            · rw [if_neg q1, if_neg (by omega)]
      · have e : k = 64 := by omega
        subst e
        have HM9 : Hid (Blk wr mm 100 (arr 65 fun i => if i = 0 then .pointer (some ⟨b, 0, none⟩) else bv ((turned 0x5c pd).getD (i - 1) 0))) := Lib.hid (hM.same fun i hi => by
          by_cases e : i = 0
          · rw [if_pos e, if_pos e]
          · rw [if_neg e, if_neg e, if_pos (by omega)])
        obtain ⟨ti, hti⟩ : ∃ ti, ti = turned 0x36 pd := ⟨_, rfl⟩
        have htl : ti.length = 64 := by rw [hti, turned_length]; exact HPL.out
        have HTL := Lib.hid htl
        have hri : Rd wr (some ⟨ib, 0, none⟩) (ti.map bv) := fun i hi => by
          have hi' : i < 64 := by rw [List.length_map, htl] at hi; exact hi
          refine ⟨ib, 0, rfl, ?_⟩
          rw [Nat.zero_add, hI.at_ hi', if_pos hi', ← hti]
          simp [List.getD, show i < ti.length by omega]
        have HRI := Lib.hid hri
        have HTI := Lib.hid hti
        have m0 : wr.cell? ⟨mm, 0, none⟩ = some (.pointer (some ⟨b, 0, none⟩)) := hM.at_ (i := 0) (by decide)
        have HNB := Lib.hid (hH_ne hI HH.out)
        clear hM hI htl hri hti HM HI
        go_wp2_with fail
        go_still_tail 5, (by kernel_rfl)
        change wpList _ _ _ _ _ wr.drew
        go_wp2_with fail
        refine (write_n wr.drew b [] (some ⟨ib, 0, none⟩) ti 64 64 HTL.out (HT.out.frm' HF.out.drew) (HH.out.frm' (Frm.refl noB wr).drew) HRI.out.drew (fun _ q ⟨a, ha, hq⟩ => by cases ha; have hq : ib = q := hq; subst hq; exact HNB.out) (by omega) (by unfold HLen; simp) (by unfold HLen; omega)).mono ?_
        rintro _ w9 ⟨rfl, hI9, hf9⟩
        have HI9 : Hid (IsH w9 b (macIn key [])) := Lib.hid (by
          rw [List.nil_append, HTI.out, HPD.out] at hI9
          unfold macIn
          rw [List.append_nil]
          exact hI9)
        have hnm : mm ≠ b := by omega
        have HM10 : Hid (IsMac w9 mm b key []) := Lib.hid ⟨by have := (HM9.out.drew).frm hf9 (fun h => hnm h); rwa [HPD.out] at this, HI9.out⟩
        have HF9 : Hid (Frm noB w w9) := Lib.hid (HF.out.drew.trans hf9 fun k hk h => by have h : k = b := h; omega)
        clear hI9 hf9 m0
        try dsimp only
        go_wp2_with fail
        go_ret
        exact ⟨mm, b, rfl, hwm, by omega, HM10.out, HF9.out⟩
end Go.Proofs.YtkhakddecmgejaaDoor
