/-
  trystlaw03.DigestSums: the walk.
-/
import Derived.Test.YtkhakddecmgejaaDoorLawPieces
import Derived.Test.YtkhakddecmgejaaDoorSpareRows
import Derived.Test.YtkhakddecmgejaaDoorRSum
import Derived.StillTailTactics
namespace Go.Proofs.YtkhakddecmgejaaDoor
open Go.RowKit
set_option linter.unusedVariables false
set_option linter.unusedSimpArgs false

theorem byte_u8 {n : Int} (h0 : 0 ≤ n) (h1 : n ≤ 255) : bv (UInt8.ofNat n.toNat) = .int .u8 n := by
  unfold bv
  congr 1
  rw [UInt8.toNat_ofNat']
  omega
/-- rows as long as those -/
def AsLong (yss xss : List (List UInt8)) : Prop := yss.length = xss.length ∧ ∀ i (h : i < yss.length) (h' : i < xss.length), yss[i].length = xss[i].length
theorem AsLong.refl (xss : List (List UInt8)) : AsLong xss xss := ⟨rfl, fun _ _ _ => rfl⟩
theorem AsLong.put {yss xss : List (List UInt8)} (h : AsLong yss xss) {i : Nat} (hi : i < yss.length) (j : Nat) (x : UInt8) : AsLong (yss.set i (yss[i].set j x)) xss :=
  ⟨by simpa using h.1, fun k hk hk' => by
    rw [List.getElem_set]
    split
    · rename_i e; subst e; simpa using h.2 i hi hk'
    · exact h.2 k (by simpa using hk) hk'⟩
theorem AsLong.sum : ∀ {yss xss : List (List UInt8)}, AsLong yss xss → yss.flatten.length = xss.flatten.length
  | [], [], _ => rfl
  | [], _ :: _, h => by have := h.1; simp at this
  | _ :: _, [], h => by have := h.1; simp at this
  | y :: ys, x :: xs, h => by
    have h0 := h.2 0 (by simp) (by simp)
    have ih := AsLong.sum (yss := ys) (xss := xs) ⟨by have := h.1; simpa using this, fun i hi hi' => by
      have := h.2 (i + 1) (by simpa using hi) (by simpa using hi')
      simpa using this⟩
    simp at h0
    simp only [List.flatten_cons, List.length_append]
    omega
theorem AsLong.mem {yss xss : List (List UInt8)} (h : AsLong yss xss) {n : Nat} (hx : ∀ l ∈ xss, l.length ≤ n) : ∀ l ∈ yss, l.length ≤ n := fun l hl => by
  obtain ⟨i, hi, rfl⟩ := List.mem_iff_getElem.1 hl
  rw [h.2 i hi (by have := h.1; omega)]
  exact hx _ (List.getElem_mem _)
section
variable {w : World} {base g i j : Nat} {gs : Nat → Nat} {yss xss : List (List UInt8)}
theorem SpRows.rowAt (h : SpRows w base g gs yss) (hl : AsLong yss xss) (hi : i < xss.length) : w.cell? ⟨g, i, none⟩ = some (.slice (some ⟨gs i, 0, none⟩) xss[i].length (xss[i].length + 80)) := by
  have hi' : i < yss.length := by have := hl.1; omega
  rw [h.cell (by omega), spv_row gs hi', hl.2 i hi' hi]
theorem SpRows.byteAt (h : SpRows w base g gs yss) (hl : AsLong yss xss) (hi : i < xss.length) (hj : j < xss[i].length) : ∃ n : Int, w.cell? ⟨gs i, j, none⟩ = some (.int .u8 n) ∧ w.frozen? ⟨gs i, j, none⟩ = false := by
  have hi' : i < yss.length := by have := hl.1; omega
  obtain ⟨cs, h1, h2, h3, h4⟩ := h.row i hi' (by omega)
  exact ⟨_, by rw [h1.cell j, h3 j (by rw [hl.2 i hi' hi]; exact hj)]; rfl, h1.frozen j⟩
theorem SpRows.putAt (h : SpRows w base g gs yss) (hl : AsLong yss xss) (hi : i < xss.length) (hj : j < xss[i].length) {n : Int} (h0 : 0 ≤ n) (h1 : n ≤ 255) :
    (∃ zss, AsLong zss xss ∧ SpRows (w.setCell ⟨gs i, j, none⟩ (.int .u8 n)) base g gs zss) ∧ Frm (fun k => base ≤ k) w (w.setCell ⟨gs i, j, none⟩ (.int .u8 n)) := by
  have hi' : i < yss.length := by have := hl.1; omega
  obtain ⟨e1, e2⟩ := h.put hi' (by rw [hl.2 i hi' hi]; exact hj) (byte_u8 h0 h1)
  exact ⟨⟨_, hl.put hi' j _, e1⟩, e2⟩
theorem SpRows.putRel {w0 : World} (h : SpRows w w0.heap.size g gs yss) (hf : Frm noB w0 w) (hl : AsLong yss xss) (hi : i < xss.length) (hj : j < xss[i].length) {n : Int} (h0 : 0 ≤ n) (h1 : n ≤ 255) :
    ∃ (j' : Nat) (zss : List (List UInt8)), j' ≤ xss[i].length ∧ Value.int .i64 ((j : Int) + 1) = .int .i64 j' ∧ AsLong zss xss ∧ SpRows (w.setCell ⟨gs i, j, none⟩ (.int .u8 n)) w0.heap.size g gs zss ∧ Frm noB w0 (w.setCell ⟨gs i, j, none⟩ (.int .u8 n)) := by
  obtain ⟨⟨zss, e1, e2⟩, e3⟩ := h.putAt hl hi hj h0 h1
  exact ⟨j + 1, zss, by omega, by go_num, e1, e2, hf.trans e3 fun q hq h => by omega⟩
end

set_option maxRecDepth 100000 in
set_option maxHeartbeats 4000000 in
theorem digestSums_any (w : World) (A : Option Addr) (xss : List (List UInt8)) (c : Nat) {N : Nat → Prop} (hT : TabOk w) (hx : RdRows w A xss N) (hl : xss.flatten.length ≤ 4000000) (hn : xss.length ≤ 2000000) :
    Calls Tryd.prog 4 #[.slice A xss.length c] w fun e w' => e = .returned (.bool true) ∧ Frm noB w w' := by
  have HT := Lib.hid hT
  have HX := Lib.hid hx
  have H2 : Hid (∀ l ∈ xss, l.length ≤ 4000000) := Lib.hid fun l hm => by
    obtain ⟨i, hi, rfl⟩ := List.mem_iff_getElem.1 hm
    have := elem_le xss hi
    omega
  obtain ⟨t, ht⟩ : ∃ t, t = xss.flatten := ⟨_, rfl⟩
  rw [← ht] at hl
  have HTX := Lib.hid ht
  clear hT hx ht
  go_enter Tryd.func4, Tryd.ntmps4
  go_wp2_with fail
  refine (spareRows_any A xss c w HX.out hn H2.out).mono ?_
  rintro _ w1 ⟨g, gs, rfl, hS, hf⟩
  have HS1 := Lib.hid hS
  have HF1 := Lib.hid hf
  clear hS hf
  try dsimp only
  go_wp2_with fail
  refine (dsum_any w1 (some ⟨g, 0, none⟩) xss (xss.length + 3) (HT.out.frm' HF1.out) HS1.out.rd (by rw [← HTX.out]; unfold HLen; omega) (by unfold HLen; omega)).mono ?_
  rintro _ w3 ⟨rfl, hf⟩
  rw [← HTX.out]
  obtain ⟨wz, hrun, hz, hfz⟩ := run_storeRow (P := Tryd.prog) (w := w3.alloc (.cells #[.int .u8 0, .int .u8 0, .int .u8 0, .int .u8 0, .int .u8 0, .int .u8 0, .int .u8 0, .int .u8 0, .int .u8 0, .int .u8 0, .int .u8 0, .int .u8 0, .int .u8 0, .int .u8 0, .int .u8 0, .int .u8 0, .int .u8 0, .int .u8 0, .int .u8 0, .int .u8 0, .int .u8 0, .int .u8 0, .int .u8 0, .int .u8 0, .int .u8 0, .int .u8 0, .int .u8 0, .int .u8 0, .int .u8 0, .int .u8 0, .int .u8 0, .int .u8 0] 26)) (Blk.new _ _ _) (cs := arr 32 (shaAt t)) (by rw [arr_size]; rfl) (one_arr fun i _ => rfl)
  have HZ := Lib.hid hz
  have hf3 : Frm noB w1 wz := hf.trans' (((Frm.refl noB w3).alloc (.cells #[.int .u8 0, .int .u8 0, .int .u8 0, .int .u8 0, .int .u8 0, .int .u8 0, .int .u8 0, .int .u8 0, .int .u8 0, .int .u8 0, .int .u8 0, .int .u8 0, .int .u8 0, .int .u8 0, .int .u8 0, .int .u8 0, .int .u8 0, .int .u8 0, .int .u8 0, .int .u8 0, .int .u8 0, .int .u8 0, .int .u8 0, .int .u8 0, .int .u8 0, .int .u8 0, .int .u8 0, .int .u8 0, .int .u8 0, .int .u8 0, .int .u8 0, .int .u8 0] 26)).trans hfz fun k hk h => by have h : k = w3.heap.size := h; omega)
  have HFZ := Lib.hid (HF1.out.trans' hf3)
  have HS := Lib.hid (HS1.out.frm' hf3)
  clear hf hz hfz hf3 HS1 HF1
  try dsimp only
  go_wp2_with fail
  obtain ⟨cs, hcs⟩ : ∃ cs : List Value, cs = (List.range 32).map (shaAt t) := ⟨_, rfl⟩
  have harr : arr 32 (shaAt t) = cs.toArray := by rw [hcs]; rfl
  have HA := Lib.hid harr
  have hE : ∀ w : World, (Op.equalIn 10000 26 (.agg cs.toArray) (.agg cs.toArray)).run Tryd.prog w = .ok true w := fun w => by rw [← harr]; exact eq_sha' w t
  have HU : Hid (Tryd.prog.underlying 26 = some (.array 32 5)) := Lib.hid Tryd.underlying26
  have HSZ : Hid ((Tryd.prog.info? 26).map (·.size) = some cs.length) := Lib.hid (by rw [hcs, List.length_map, List.length_range]; rfl)
  have hr0 := (HZ.out.frm' (Frm.refl noB wz).drew).range harr
  clear hcs harr hrun
  refine wp_region_held_drew (S := fun w' => w'.rangeAt w3.heap.size 0 cs) (by kernel_rfl) hr0 (fun hHeld => ?_)
  refine takeC (i := 0) (.agg cs.toArray) rfl (by kernel_rfl) (by kernel_rfl) (by kernel_rfl) (fun _ _ _ h => h) (yieldsIf_load_mid (by rfl) _ _ rfl w3.heap.size 0 rfl cs _ (fun w hw => hw) HU.out rfl HSZ.out) hr0 ?_
  try simp only [Act.put, List.setIfInBounds_toArray, List.set_cons_zero, List.set_cons_succ]
  refine takeC (i := 1) (.slice A xss.length c) rfl (by kernel_rfl) (by kernel_rfl) (by kernel_rfl) (fun _ _ _ h => h) (Or.inl ⟨by rfl, fun w hw => by go_simp⟩) hr0 ?_
  try simp only [Act.put, List.setIfInBounds_toArray, List.set_cons_zero, List.set_cons_succ]
  refine consC (i := 2) rfl (by kernel_rfl) (fun K hK => ?_)
  go_simp
  go_at_call 20
  refine (join_any wz.drew A xss c ((HX.out.frm' HFZ.out).frm' (Frm.refl noB wz).drew) (by rw [← HTX.out]; unfold JLen; omega) (by unfold JLen; omega)).mono ?_
  rintro _ w5 ⟨v5, rfl, ho, hf⟩
  rw [← HTX.out] at ho
  obtain ⟨A5, c5, rfl, hc5⟩ := own_slice ho
  have HO5 := Lib.hid ho
  have HF5 := Lib.hid ((Frm.refl noB wz).drew.trans' hf)
  have hr5 := (HZ.out.frm' HF5.out).range HA.out
  clear ho hf
  try dsimp only
  refine hK.out _ _ hr5 (fun hHeld => ?_)
  clear hK K
  try simp only [Act.put, List.setIfInBounds_toArray, List.set_cons_zero, List.set_cons_succ]
  refine consC (i := 3) rfl (by kernel_rfl) (fun K hK => ?_)
  go_simp
  go_at_call 19
  refine (rsum_any w5 A5 t c5 (Rd.of_own HO5.out) (by unfold JLen; omega)).mono ?_
  rintro _ w6 ⟨rfl, hf⟩
  rw [HA.out]
  have HF6 := Lib.hid (HF5.out.trans' hf)
  have hr6 := (HZ.out.frm' HF6.out).range HA.out
  clear hf
  try dsimp only
  refine hK.out _ _ hr6 (fun hHeld => ?_)
  clear hK K
  try simp only [Act.put, List.setIfInBounds_toArray, List.set_cons_zero, List.set_cons_succ]
  refine takeC (i := 4) (.bool false) rfl (by kernel_rfl) (by kernel_rfl) (by kernel_rfl) (fun _ _ _ h => h) (Or.inl ⟨by rfl, fun w hw => by go_simp⟩) hr6 ?_
  try simp only [Act.put, List.setIfInBounds_toArray, List.set_cons_zero, List.set_cons_succ]
  refine takeC (i := 5) (.bool false) rfl (by kernel_rfl) (by kernel_rfl) (by kernel_rfl) (fun _ _ _ h => h) (Or.inl ⟨by rfl, fun w hw => by go_simp⟩) hr6 ?_
  try simp only [Act.put, List.setIfInBounds_toArray, List.set_cons_zero, List.set_cons_succ]
  refine takeC (i := 6) (.slice (some ⟨g, 0, none⟩) xss.length (xss.length + 3)) rfl (by kernel_rfl) (by kernel_rfl) (by kernel_rfl) (fun _ _ _ h => h) (Or.inl ⟨by rfl, fun w hw => by go_simp⟩) hr6 ?_
  try simp only [Act.put, List.setIfInBounds_toArray, List.set_cons_zero, List.set_cons_succ]
  refine takeC (i := 7) (.slice A xss.length c) rfl (by kernel_rfl) (by kernel_rfl) (by kernel_rfl) (fun _ _ _ h => h) (Or.inl ⟨by rfl, fun w hw => by go_simp⟩) hr6 ?_
  try simp only [Act.put, List.setIfInBounds_toArray, List.set_cons_zero, List.set_cons_succ]
  refine consC (i := 8) rfl (by kernel_rfl) (fun K hK => ?_)
  go_simp
  go_at_call 21
  refine (keptRows_any g gs w.heap.size A xss c w6 (HS.out.frm' HF6.out) (HX.out.frm' (HFZ.out.trans' HF6.out)) hn H2.out).mono ?_
  rintro _ w7 ⟨rfl, nq, rfl⟩
  have HF7 := Lib.hid (HF6.out.drewN nq)
  have hr7 := (HZ.out.frm' HF7.out).range HA.out
  try dsimp only
  refine hK.out _ _ hr7 (fun hHeld => ?_)
  clear hK K
  try simp only [Act.put, List.setIfInBounds_toArray, List.set_cons_zero, List.set_cons_succ]
  refine takeC (i := 9) (.bool false) rfl (by kernel_rfl) (by kernel_rfl) (by kernel_rfl) (fun _ _ _ h => h) (Or.inl ⟨by rfl, fun w hw => by go_simp⟩) hr7 ?_
  try simp only [Act.put, List.setIfInBounds_toArray, List.set_cons_zero, List.set_cons_succ]
  refine takeC (i := 10) (.bool false) rfl (by kernel_rfl) (by kernel_rfl) (by kernel_rfl) (fun _ _ _ h => h) (Or.inl ⟨by rfl, fun w hw => by go_simp⟩) hr7 ?_
  try simp only [Act.put, List.setIfInBounds_toArray, List.set_cons_zero, List.set_cons_succ]
  refine wpAnyH_done (by kernel_rfl) ?_ _
  obtain ⟨ws, hws⟩ : ∃ ws : World, ws = w6.drewN nq := ⟨_, rfl⟩
  rw [← hws]
  have HSs : Hid (SpRows ws w.heap.size g gs xss) := Lib.hid (by rw [hws]; exact HS.out.frm' HF7.out)
  have HFs : Hid (Frm noB w ws) := Lib.hid (by rw [hws]; exact HFZ.out.trans' HF7.out)
  clear hws hr0 hr5 hr6 hr7 hE HA HZ HS HFZ HO5 HF5 HF6 HF7 HSZ
  go_wp2_with fail
  go_loopw [5] (fun i wr => ∃ (k : Nat) (yss : List (List UInt8)), k ≤ xss.length ∧ i = .int .i64 k ∧ AsLong yss xss ∧ SpRows wr w.heap.size g gs yss ∧ Frm noB w wr) (fun i _ => xss.length - (intOf i).toNat)
  case atStart => exact ⟨0, xss, Nat.zero_le _, rfl, AsLong.refl _, HSs.out, HFs.out⟩
  case round =>
    clear HSs HFs
    obtain ⟨k, yss, hk, rfl, hA, hS, hF⟩ := hrel
    obtain ⟨wq, rfl⟩ : ∃ wq : World, wq = wr := ⟨_, rfl⟩
    have HA := Lib.hid hA
    have HS := Lib.hid hS
    have HF := Lib.hid hF
    clear hA hS hF
    by_cases hlt : k < xss.length
    · go_wp2_with fail
      go_loopw [6] (fun i wr => ∃ (j : Nat) (yss : List (List UInt8)), j ≤ xss[k].length ∧ i = .int .i64 j ∧ AsLong yss xss ∧ SpRows wr w.heap.size g gs yss ∧ Frm noB w wr) (fun i _ => xss[k].length - (intOf i).toNat)
      case atStart => exact ⟨0, yss, Nat.zero_le _, rfl, HA.out, HS.out, HF.out⟩
      case round =>
        clear HA HS HF
        obtain ⟨j, yss, hj, rfl, hA, hS, hF⟩ := hrel
        have HA := Lib.hid hA
        have HS := Lib.hid hS
        have HF := Lib.hid hF
        have hc := hS.rowAt hA hlt
        have hle := H2.out _ (List.getElem_mem hlt)
        clear hA hS hF
        by_cases hjl : j < xss[k].length
        · obtain ⟨n, hb, hz⟩ := HS.out.byteAt HA.out hlt hjl
          have hcd : wr.drew.cell? ⟨g, k, none⟩ = some (.slice (some ⟨gs k, 0, none⟩) xss[k].length (xss[k].length + 80)) := hc
          have hbd : wr.drew.cell? ⟨gs k, j, none⟩ = some (.int .u8 n) := hb
          have hzd : wr.drew.frozen? ⟨gs k, j, none⟩ = false := hz
          have hne : g ≠ gs k := fun e => HS.out.neg (i := k) (by have := HA.out.1; omega) e.symm
          have e1 : IntKind.i64.wrap (1 + (k : Int)) = 1 + k := IntWalk.i64_in _ (by omega)
          have e2 : IntKind.i64.wrap (1 + (k : Int) + j) = 1 + k + j := IntWalk.i64_in _ (by omega)
          go_wp2_with fail
          clear hcd hbd hzd
          go_still_tail 19, (by kernel_rfl)
          change wpList _ _ _ _ _ wr.drew
          have hb2 : wr.drew.cell? ⟨gs k, j, none⟩ = some (.int .u8 n) := hb
          have hz2 : wr.drew.frozen? ⟨gs k, j, none⟩ = false := hz
          have HSd := Lib.hid (HS.out.frm' (Frm.refl noB wr).drew)
          have HFd := Lib.hid (HF.out.trans' (Frm.refl noB wr).drew)
          generalize wr.drew = wd at *
          go_wp2_with fail
          exact ⟨HSd.out.putRel HFd.out HA.out hlt hjl (bits_lo_u8 _ _ _) (bits_hi_u8 _ _ _), by simp [intOf]; omega⟩
        · have e : j = xss[k].length := by omega
          subst e
          go_wp2_with fail
          exact ⟨⟨k + 1, yss, by omega, by go_num, HA.out, HS.out, HF.out⟩, by simp [intOf]; omega⟩
    · have e : k = xss.length := by omega
      subst e
      have hn' : yss.length = xss.length := HA.out.1
      obtain ⟨s, hs⟩ : ∃ s, s = yss.flatten := ⟨_, rfl⟩
      have hsl : s.length = t.length := by rw [hs, HTX.out]; exact HA.out.sum
      have hsl' : s.length ≤ 4000000 := by omega
      have HSX := Lib.hid hs
      have HRD : Hid (RdRows wq (some ⟨g, 0, none⟩) yss _) := Lib.hid HS.out.rd
      have H3 := Lib.hid (HA.out.mem H2.out)
      have HN := Lib.hid hn'
      clear hs hsl hn'
      have HCR := Lib.hid (copyRows_any (some ⟨g, 0, none⟩) yss (xss.length + 3) wq HRD.out (by rw [HN.out]; exact hn) (fun l hm => by have := H3.out l hm; unfold Len; omega))
      have HCR' := HCR.out
      rw [HN.out] at HCR'
      have HC := Lib.hid HCR'
      clear HCR HCR'
      go_wp2_with fail
      refine HC.out.mono ?_
      rintro _ w8 ⟨v8, vs8, rfl, ho, hf⟩
      obtain ⟨A8, c8, rfl, hx8⟩ := ho.rows
      have HX8 := Lib.hid hx8
      have HF8 := Lib.hid (HF.out.trans' hf)
      have HD := Lib.hid (dsum_any w8 (some ⟨g, 0, none⟩) yss (xss.length + 3) (HT.out.frm' HF8.out) (HRD.out.frm' hf) (by rw [← HSX.out]; unfold HLen; omega) (by rw [HN.out]; unfold HLen; omega))
      have HD' := HD.out
      rw [HN.out, ← HSX.out] at HD'
      have HDD := Lib.hid HD'
      rw [HN.out]
      clear HD HD' ho hf hx8
      try dsimp only
      go_wp2_with fail
      refine HDD.out.mono ?_
      rintro _ w9 ⟨rfl, hf⟩
      have HF9 := Lib.hid (HF8.out.trans' hf)
      have HJ := join_any w9 A8 yss c8 (HX8.out.frm' hf) (by rw [← HSX.out]; unfold JLen; omega) (by rw [HN.out]; unfold JLen; omega)
      rw [HN.out, ← HSX.out] at HJ
      have HJJ := Lib.hid HJ
      clear hf HJ
      try dsimp only
      go_wp2_with fail
      refine HJJ.out.mono ?_
      rintro _ w10 ⟨v10, rfl, ho, hf⟩
      obtain ⟨A10, c10, rfl, hc10⟩ := own_slice ho
      have HF10 := Lib.hid (HF9.out.trans' hf)
      have HO10 := Lib.hid ho
      clear ho hf
      try dsimp only
      go_wp2_with fail
      refine (rsum_any w10 A10 s c10 (Rd.of_own HO10.out) (by unfold JLen; omega)).mono ?_
      rintro _ w11 ⟨rfl, hf⟩
      have HF11 := Lib.hid (HF10.out.trans' hf)
      have heq := fun w => eq_sha' w s
      clear hf
      try dsimp only
      go_wp2_with fail
      refine (works03 w11 (HT.out.frm' HF11.out)).mono ?_
      rintro _ w12 ⟨rfl, hf⟩
      try dsimp only
      go_wp2_with fail
      go_ret
      exact ⟨rfl, HF11.out.trans' hf⟩
end Go.Proofs.YtkhakddecmgejaaDoor
