/-
  trystlaw04.DeriveSums: the walk.
-/
import Derived.Test.YtkhakddecmgejaaDoorCutS
import Derived.Test.YtkhakddecmgejaaDoorLawDPieces
namespace Go.Proofs.YtkhakddecmgejaaDoor
open Go.RowKit
set_option linter.unusedVariables false
set_option linter.unusedSimpArgs false

/-- derive.Check of the code that is due -/
theorem check_n (w : World) (A B : Option Addr) (key : List UInt8) (xss : List (List UInt8)) (t mt : List UInt8) (n m cap c : Nat) {N : Nat → Prop} (ht : xss.flatten = t) (hmt : macT key t = mt) (hn0 : key.length = n) (hm0 : xss.length = m) (hT : TabOk w) (hx : Rd w A (key.map bv)) (hc : n ≤ cap) (hl : n ≤ 1000000000) (hr : RdRows w B xss N) (hf : t.length ≤ 1000000000) (hn : m ≤ 1000000000) :
    Calls Tryd.prog 45 #[.slice A n cap, .agg (arr 32 (shaAt mt)), .slice B m c] w fun e w' => e = .returned (.bool true) ∧ Frm noB w w' := by
  subst hm0; subst hn0; subst hmt; subst ht
  have h := check_any w A B key xss (sha (macT key xss.flatten)) cap c (sha_length _) hT hx hc hl hr hf hn
  refine Calls.mono h fun e w' ⟨he, hf'⟩ => ⟨?_, hf'⟩
  rw [he]
  congr 2
  have e1 : hmac key xss.flatten = sha (macT key xss.flatten) := by simp [hmac]
  exact decide_eq_true e1

/-- derive.Check of another code -/
theorem check_bad (w : World) (A B : Option Addr) (key : List UInt8) (xss : List (List UInt8)) (t mt cb : List UInt8) (n m cap c : Nat) {N : Nat → Prop} (hcb : cb.length = 32) (hne : sha mt ≠ cb) (ht : xss.flatten = t) (hmt : macT key t = mt) (hn0 : key.length = n) (hm0 : xss.length = m) (hT : TabOk w) (hx : Rd w A (key.map bv)) (hc : n ≤ cap) (hl : n ≤ 1000000000) (hr : RdRows w B xss N) (hf : t.length ≤ 1000000000) (hn : m ≤ 1000000000) :
    Calls Tryd.prog 45 #[.slice A n cap, .agg (arr 32 (codeF cb)), .slice B m c] w fun e w' => e = .returned (.bool false) ∧ Frm noB w w' := by
  subst hm0; subst hn0; subst hmt; subst ht
  have h := check_any w A B key xss cb cap c hcb hT hx hc hl hr hf hn
  refine Calls.mono h fun e w' ⟨he, hf'⟩ => ⟨?_, hf'⟩
  rw [he]
  congr 2
  have e1 : hmac key xss.flatten = sha (macT key xss.flatten) := by simp [hmac]
  exact decide_eq_false (by rw [e1]; exact hne)
/-- a digest with its last bit turned -/
def turnL (mt : List UInt8) : List UInt8 := (sha mt).set 31 ((sha mt).getD 31 0 ^^^ 1)
theorem turnL_length (mt : List UInt8) : (turnL mt).length = 32 := by simp [turnL, sha_length]
theorem turnL_31 (mt : List UInt8) : ((sha mt).set 31 ((sha mt).getD 31 0 ^^^ 1)).getD 31 0 = (sha mt).getD 31 0 ^^^ 1 := by
  generalize (sha mt).getD 31 0 ^^^ 1 = y
  rw [List.getD, List.getElem?_set_self (by rw [sha_length]; omega)]; rfl
theorem turnL_ne (mt : List UInt8) : sha mt ≠ turnL mt := fun h => by
  have h1 := congrArg (fun l => l.getD 31 0) h
  simp only [turnL] at h1
  rw [turnL_31] at h1
  generalize (sha mt).getD 31 0 = x at h1
  have h3 := (u8_xor0 x (x ^^^ 1)).2 h1
  rw [← UInt8.xor_assoc, UInt8.xor_self, UInt8.zero_xor] at h3
  cases h3
theorem turn_arr (mt : List UInt8) {v : Value} (hv : v = bv ((sha mt).getD 31 0 ^^^ 1)) : arr 32 (fun i => if i = 31 then v else shaAt mt i) = arr 32 (codeF (turnL mt)) :=
  arr_congr fun i hi => by
    subst hv
    unfold codeF turnL shaAt
    by_cases e : i = 31
    · subst e
      rw [if_pos rfl, turnL_31]
    · rw [if_neg e]
      generalize (sha mt).getD 31 0 ^^^ 1 = y
      rw [List.getD, List.getD, List.getElem?_set_ne (by omega)]

set_option maxRecDepth 100000 in
set_option maxHeartbeats 4000000 in
theorem deriveSums_any (w : World) (A B : Option Addr) (key : List UInt8) (xss : List (List UInt8)) (c d : Nat) {N : Nat → Prop} (hT : TabOk w) (hx : Rd w A (key.map bv)) (hy : RdRows w B xss N) (hc : key.length ≤ c) (h1 : key.length ≤ 2000000) (h2 : xss.flatten.length ≤ 2000000) (h3 : xss.length ≤ 2000000) :
    Calls Tryd.prog 10 #[.slice A key.length c, .slice B xss.length d] w fun r w' => r = .returned (.bool true) ∧ Frm noB w w' := by
  have HT := Lib.hid hT
  have HX := Lib.hid hx
  have HY := Lib.hid hy
  obtain ⟨text, htext⟩ : ∃ text, text = xss.flatten := ⟨_, rfl⟩
  obtain ⟨m, hm⟩ : ∃ m, m = (rowsL xss).length := ⟨_, rfl⟩
  have hmm : m ≤ 200000000 := by rw [hm, rowsL_length]; omega
  have htl : text.length ≤ 2000000 := by rw [htext]; omega
  have hHX := Lib.hid htext
  have HM := Lib.hid hm.symm
  obtain ⟨mt, hmt⟩ : ∃ mt, mt = macT key text := ⟨_, rfl⟩
  have HMT := Lib.hid hmt.symm
  clear hT hx hy htext hm hmt
  go_enter Tryd.func10, Tryd.ntmps10
  go_wp2_with fail
  refine (lent_any w A key c HX.out (by omega)).mono ?_
  rintro _ w1 ⟨A1, c1, rfl, ho1, hf1⟩
  have hc1 : key.length + 64 ≤ c1 := by obtain ⟨_, _, e, h⟩ := own_slice ho1; injection e with _ _ e3; omega
  have hck : key.length ≤ c1 := by omega
  have HK1 : Hid (Rd w1 A1 ((lentL key).map bv)) := Lib.hid (Rd.of_own ho1)
  have HF1 := Lib.hid hf1
  clear ho1 hf1
  try dsimp only
  go_wp2_with fail
  refine (rows_any w1 B xss d (HY.out.frm' HF1.out) (by omega) (by omega)).mono ?_
  rw [HM.out]
  rintro _ w2 ⟨F, cF, rfl, ho2, hf2⟩
  have hcF : m ≤ cF := by obtain ⟨_, _, e, h⟩ := own_slice ho2; injection e with _ _ e3; omega
  have HO2 := Lib.hid ho2
  have HF2 := Lib.hid (HF1.out.trans' hf2)
  have HF12 := Lib.hid hf2
  have HG2 := Lib.hid hf2
  have HKW := HK1
  have HFA := HF1
  have hs1 := HF1.out.size
  clear ho2 hf2
  try dsimp only
  go_wp2_with fail
  refine (cut_any w2 F B xss m cF d (HY.out.frm' HF2.out) HM.out hcF (by omega) (by omega)).mono ?_
  rintro _ w3 ⟨L, cL, rfl, ho3, hf3⟩
  have HL := Lib.hid ho3
  have HF3 := Lib.hid (HF2.out.trans' hf3)
  have HG3 := Lib.hid (HG2.out.trans' hf3)
  have HO3 := Lib.hid (own_frm' HO2.out hf3)
  have HK3 := Lib.hid ((HK1.out.frm' HF12.out).frm' hf3)
  have hs2 : w1.heap.size ≤ w2.heap.size := HF12.out.size
  clear ho3 hf3 HO2 HK1 HF12 HF2 HF1
  try dsimp only
  go_wp2_with fail
  refine (join4_any w3 B xss d (HY.out.frm' HF3.out) (by unfold JLen; omega) (by unfold JLen; omega)).mono ?_
  rw [← hHX.out]
  rintro _ w4 ⟨A4, c4, rfl, ho4, hf4⟩
  have hc4 : text.length ≤ c4 := by obtain ⟨_, _, e, h⟩ := own_slice ho4; injection e with _ _ e3; omega
  have HT4 := Lib.hid (Rd.of_own ho4)
  have HF4 := Lib.hid (HF3.out.trans' hf4)
  have HG4 := Lib.hid (HG3.out.trans' hf4)
  have HO4 := Lib.hid (own_frm' HO3.out hf4)
  have HK4 := Lib.hid (HK3.out.frm' hf4)
  have HL4 := Lib.hid (own_frm' HL.out hf4)
  clear ho4 hf4 HO3 HK3 HL HF3
  try dsimp only
  go_wp2_with fail
  have hS := rmac_n w4 A A4 key text key.length text.length c c4 rfl rfl (HX.out.frm' HF4.out) HT4.out (by unfold JLen; omega) (by omega)
  rw [HMT.out] at hS
  refine hS.mono ?_
  clear hS
  rintro _ w5 ⟨rfl, hf⟩
  obtain ⟨wz, hrun, hz, hfz⟩ := run_storeRow (P := Tryd.prog) (w := w5.alloc (.cells #[.int .u8 0, .int .u8 0, .int .u8 0, .int .u8 0, .int .u8 0, .int .u8 0, .int .u8 0, .int .u8 0, .int .u8 0, .int .u8 0, .int .u8 0, .int .u8 0, .int .u8 0, .int .u8 0, .int .u8 0, .int .u8 0, .int .u8 0, .int .u8 0, .int .u8 0, .int .u8 0, .int .u8 0, .int .u8 0, .int .u8 0, .int .u8 0, .int .u8 0, .int .u8 0, .int .u8 0, .int .u8 0, .int .u8 0, .int .u8 0, .int .u8 0, .int .u8 0] 26)) (Blk.new _ _ _) (cs := arr 32 (shaAt mt)) (by rw [arr_size]; rfl) (one_arr fun i _ => rfl)
  have HZZ := Lib.hid hz
  have HF4Z : Hid (Frm noB w4 wz) := Lib.hid (hf.trans' (((Frm.refl noB w5).alloc (.cells #[.int .u8 0, .int .u8 0, .int .u8 0, .int .u8 0, .int .u8 0, .int .u8 0, .int .u8 0, .int .u8 0, .int .u8 0, .int .u8 0, .int .u8 0, .int .u8 0, .int .u8 0, .int .u8 0, .int .u8 0, .int .u8 0, .int .u8 0, .int .u8 0, .int .u8 0, .int .u8 0, .int .u8 0, .int .u8 0, .int .u8 0, .int .u8 0, .int .u8 0, .int .u8 0, .int .u8 0, .int .u8 0, .int .u8 0, .int .u8 0, .int .u8 0, .int .u8 0] 26)).trans hfz fun k hk h => by have h : k = w5.heap.size := h; omega))
  have HRUN := Lib.hid hrun
  clear hf hz hfz hrun
  try dsimp only
  go_wp2_with (refine wpList_storeRow rfl _ _ _ rfl rfl w5.heap.size rfl _ rfl (size_arr _ _) HRUN.out ?_)
  have hfd : Frm noB wz wz.drew := (Frm.refl noB wz).drew
  have HGD := Lib.hid ((HG4.out.trans' HF4Z.out).trans' hfd)
  have HFD := Lib.hid ((HF4.out.trans' HF4Z.out).trans' hfd)
  have HOD := Lib.hid (own_frm' (own_frm' HO4.out HF4Z.out) hfd)
  have HKD := Lib.hid ((HK4.out.frm' HF4Z.out).frm' hfd)
  have HLD := Lib.hid (own_frm' (own_frm' HL4.out HF4Z.out) hfd)
  have HTD := Lib.hid ((HT4.out.frm' HF4Z.out).frm' hfd)
  have HZD := Lib.hid (HZZ.out.frm' hfd)
  obtain ⟨cs, hcs⟩ : ∃ cs : List Value, cs = (List.range 32).map (shaAt mt) := ⟨_, rfl⟩
  have harr : arr 32 (shaAt mt) = cs.toArray := by rw [hcs]; rfl
  have HA := Lib.hid harr
  have hE : ∀ w : World, (Op.equalIn 10000 26 (.agg cs.toArray) (.agg cs.toArray)).run Tryd.prog w = .ok true w := fun w => by rw [← harr]; exact eq_sha' w mt
  have HU : Hid (Tryd.prog.underlying 26 = some (.array 32 5)) := Lib.hid Tryd.underlying26
  have HSZ : Hid ((Tryd.prog.info? 26).map (·.size) = some cs.length) := Lib.hid (by rw [hcs, List.length_map, List.length_range]; rfl)
  have hr0 := HZD.out.range harr
  clear hcs harr hfd HZZ HF4Z HRUN HF4 HO4 HK4 HL4 HT4
  refine wp_region_held_drew (S := fun w' => w'.rangeAt w5.heap.size 0 cs) (by kernel_rfl) hr0 (fun hHeld => ?_)
  generalize wz.drew = wd at *
  have HKK : Hid (∀ w', Frm noB wd w' → Rd w' A1 (key.map bv)) := Lib.hid fun w' hf => by
    have h := (HKD.out.frm' hf).takeB key.length
    unfold lentL at h
    rwa [List.take_left] at h
  have HRR : Hid (∀ w', Frm noB wd w' → RdRows w' L xss (fun _ => True)) := Lib.hid fun w' hf =>
    cut_rows (own_frm' HLD.out hf) ((Rd.of_own HOD.out).frm' hf) (Alike.refl xss) (by rw [HM.out]; exact hcF)
  refine takeC (i := 0) (.slice A1 (key.length + 64) c1) rfl (by kernel_rfl) (by kernel_rfl) (by kernel_rfl) (fun _ _ _ h => h) (Or.inl ⟨by rfl, fun w hw => by go_simp⟩) hr0 ?_
  try simp only [Act.put, List.setIfInBounds_toArray, List.set_cons_zero, List.set_cons_succ]
  refine takeC (i := 1) (.slice A key.length c) rfl (by kernel_rfl) (by kernel_rfl) (by kernel_rfl) (fun _ _ _ h => h) (Or.inl ⟨by rfl, fun w hw => by go_simp⟩) hr0 ?_
  try simp only [Act.put, List.setIfInBounds_toArray, List.set_cons_zero, List.set_cons_succ]
  refine takeC (i := 2) (.int .i64 key.length) rfl (by kernel_rfl) (by kernel_rfl) (by kernel_rfl) (fun _ _ _ h => h) (Or.inl ⟨by rfl, fun w hw => by go_simp⟩) hr0 ?_
  try simp only [Act.put, List.setIfInBounds_toArray, List.set_cons_zero, List.set_cons_succ]
  refine takeC (i := 3) (.slice A1 key.length c1) rfl (by kernel_rfl) (by kernel_rfl) (by kernel_rfl) (fun _ _ _ h => h) (Or.inl ⟨by rfl, fun w hw => by go_simp⟩) hr0 ?_
  try simp only [Act.put, List.setIfInBounds_toArray, List.set_cons_zero, List.set_cons_succ]
  refine takeC (i := 4) (.slice L xss.length cL) rfl (by kernel_rfl) (by kernel_rfl) (by kernel_rfl) (fun _ _ _ h => h) (Or.inl ⟨by rfl, fun w hw => by go_simp⟩) hr0 ?_
  try simp only [Act.put, List.setIfInBounds_toArray, List.set_cons_zero, List.set_cons_succ]
  refine takeC (i := 6) (.agg cs.toArray) rfl (by kernel_rfl) (by kernel_rfl) (by kernel_rfl) (fun _ _ _ h => h) (yieldsIf_load_mid (by rfl) _ _ rfl w5.heap.size 0 rfl cs _ (fun w hw => hw) HU.out rfl HSZ.out) hr0 ?_
  try simp only [Act.put, List.setIfInBounds_toArray, List.set_cons_zero, List.set_cons_succ]
  refine consC (i := 5) rfl (by kernel_rfl) (fun K hK => ?_)
  go_simp
  go_at_call 41
  have hS := dersum_n wd A1 L key xss key.length xss.length c1 cL text rfl rfl hHX.out.symm (HT.out.frm' HFD.out) (HKK.out _ (Frm.refl _ _)) (by omega) (by omega) (HRR.out _ (Frm.refl _ _)) (by omega) (by omega)
  rw [HMT.out] at hS
  refine hS.mono ?_
  rintro _ w6 ⟨rfl, hf⟩
  rw [HA.out]
  have HF6 := Lib.hid hf
  have hr6 := (HZD.out.frm' HF6.out).range HA.out
  clear hf hS
  try dsimp only
  refine hK.out _ _ hr6 (fun hHeld => ?_)
  clear hK K
  try simp only [Act.put, List.setIfInBounds_toArray, List.set_cons_zero, List.set_cons_succ]
  refine takeC (i := 7) (.bool false) rfl (by kernel_rfl) (by kernel_rfl) (by kernel_rfl) (fun _ _ _ h => h) (Or.inl ⟨by rfl, fun w hw => by go_simp⟩) hr6 ?_
  try simp only [Act.put, List.setIfInBounds_toArray, List.set_cons_zero, List.set_cons_succ]
  refine takeC (i := 8) (.bool false) rfl (by kernel_rfl) (by kernel_rfl) (by kernel_rfl) (fun _ _ _ h => h) (Or.inl ⟨by rfl, fun w hw => by go_simp⟩) hr6 ?_
  try simp only [Act.put, List.setIfInBounds_toArray, List.set_cons_zero, List.set_cons_succ]
  refine takeC (i := 9) (.slice A1 (key.length + 64) c1) rfl (by kernel_rfl) (by kernel_rfl) (by kernel_rfl) (fun _ _ _ h => h) (Or.inl ⟨by rfl, fun w hw => by go_simp⟩) hr6 ?_
  try simp only [Act.put, List.setIfInBounds_toArray, List.set_cons_zero, List.set_cons_succ]
  refine takeC (i := 10) (.slice A key.length c) rfl (by kernel_rfl) (by kernel_rfl) (by kernel_rfl) (fun _ _ _ h => h) (Or.inl ⟨by rfl, fun w hw => by go_simp⟩) hr6 ?_
  try simp only [Act.put, List.setIfInBounds_toArray, List.set_cons_zero, List.set_cons_succ]
  refine takeC (i := 11) (.int .i64 key.length) rfl (by kernel_rfl) (by kernel_rfl) (by kernel_rfl) (fun _ _ _ h => h) (Or.inl ⟨by rfl, fun w hw => by go_simp⟩) hr6 ?_
  try simp only [Act.put, List.setIfInBounds_toArray, List.set_cons_zero, List.set_cons_succ]
  refine takeC (i := 12) (.slice A1 key.length c1) rfl (by kernel_rfl) (by kernel_rfl) (by kernel_rfl) (fun _ _ _ h => h) (Or.inl ⟨by rfl, fun w hw => by go_simp⟩) hr6 ?_
  try simp only [Act.put, List.setIfInBounds_toArray, List.set_cons_zero, List.set_cons_succ]
  refine takeC (i := 13) (.slice L xss.length cL) rfl (by kernel_rfl) (by kernel_rfl) (by kernel_rfl) (fun _ _ _ h => h) (Or.inl ⟨by rfl, fun w hw => by go_simp⟩) hr6 ?_
  try simp only [Act.put, List.setIfInBounds_toArray, List.set_cons_zero, List.set_cons_succ]
  refine takeC (i := 15) (.agg cs.toArray) rfl (by kernel_rfl) (by kernel_rfl) (by kernel_rfl) (fun _ _ _ h => h) (yieldsIf_load_mid (by rfl) _ _ rfl w5.heap.size 0 rfl cs _ (fun w hw => hw) HU.out rfl HSZ.out) hr6 ?_
  try simp only [Act.put, List.setIfInBounds_toArray, List.set_cons_zero, List.set_cons_succ]
  refine consC (i := 14) rfl (by kernel_rfl) (fun K hK => ?_)
  go_simp
  go_at_call 41
  have hS := dersum_n w6 A1 L key xss key.length xss.length c1 cL text rfl rfl hHX.out.symm (HT.out.frm' (HFD.out.trans' HF6.out)) (HKK.out _ HF6.out) (by omega) (by omega) (HRR.out _ HF6.out) (by omega) (by omega)
  rw [HMT.out] at hS
  refine hS.mono ?_
  rintro _ w7 ⟨rfl, hf⟩
  rw [HA.out]
  have HF7 := Lib.hid (HF6.out.trans' hf)
  have hr7 := (HZD.out.frm' HF7.out).range HA.out
  clear hf hS
  try dsimp only
  refine hK.out _ _ hr7 (fun hHeld => ?_)
  clear hK K
  try simp only [Act.put, List.setIfInBounds_toArray, List.set_cons_zero, List.set_cons_succ]
  refine takeC (i := 16) (.bool false) rfl (by kernel_rfl) (by kernel_rfl) (by kernel_rfl) (fun _ _ _ h => h) (Or.inl ⟨by rfl, fun w hw => by go_simp⟩) hr7 ?_
  try simp only [Act.put, List.setIfInBounds_toArray, List.set_cons_zero, List.set_cons_succ]
  refine takeC (i := 17) (.bool false) rfl (by kernel_rfl) (by kernel_rfl) (by kernel_rfl) (fun _ _ _ h => h) (Or.inl ⟨by rfl, fun w hw => by go_simp⟩) hr7 ?_
  try simp only [Act.put, List.setIfInBounds_toArray, List.set_cons_zero, List.set_cons_succ]
  refine takeC (i := 18) (.bool false) rfl (by kernel_rfl) (by kernel_rfl) (by kernel_rfl) (fun _ _ _ h => h) (Or.inl ⟨by rfl, fun w hw => by go_simp⟩) hr7 ?_
  try simp only [Act.put, List.setIfInBounds_toArray, List.set_cons_zero, List.set_cons_succ]
  refine takeC (i := 19) (.slice A1 (key.length + 64) c1) rfl (by kernel_rfl) (by kernel_rfl) (by kernel_rfl) (fun _ _ _ h => h) (Or.inl ⟨by rfl, fun w hw => by go_simp⟩) hr7 ?_
  try simp only [Act.put, List.setIfInBounds_toArray, List.set_cons_zero, List.set_cons_succ]
  refine takeC (i := 20) (.slice A key.length c) rfl (by kernel_rfl) (by kernel_rfl) (by kernel_rfl) (fun _ _ _ h => h) (Or.inl ⟨by rfl, fun w hw => by go_simp⟩) hr7 ?_
  try simp only [Act.put, List.setIfInBounds_toArray, List.set_cons_zero, List.set_cons_succ]
  refine takeC (i := 21) (.int .i64 key.length) rfl (by kernel_rfl) (by kernel_rfl) (by kernel_rfl) (fun _ _ _ h => h) (Or.inl ⟨by rfl, fun w hw => by go_simp⟩) hr7 ?_
  try simp only [Act.put, List.setIfInBounds_toArray, List.set_cons_zero, List.set_cons_succ]
  refine takeC (i := 22) (.slice A1 key.length c1) rfl (by kernel_rfl) (by kernel_rfl) (by kernel_rfl) (fun _ _ _ h => h) (Or.inl ⟨by rfl, fun w hw => by go_simp⟩) hr7 ?_
  try simp only [Act.put, List.setIfInBounds_toArray, List.set_cons_zero, List.set_cons_succ]
  refine takeC (i := 23) (.agg cs.toArray) rfl (by kernel_rfl) (by kernel_rfl) (by kernel_rfl) (fun _ _ _ h => h) (yieldsIf_load_mid (by rfl) _ _ rfl w5.heap.size 0 rfl cs _ (fun w hw => hw) HU.out rfl HSZ.out) hr7 ?_
  try simp only [Act.put, List.setIfInBounds_toArray, List.set_cons_zero, List.set_cons_succ]
  refine takeC (i := 24) (.slice L xss.length cL) rfl (by kernel_rfl) (by kernel_rfl) (by kernel_rfl) (fun _ _ _ h => h) (Or.inl ⟨by rfl, fun w hw => by go_simp⟩) hr7 ?_
  try simp only [Act.put, List.setIfInBounds_toArray, List.set_cons_zero, List.set_cons_succ]
  refine consC (i := 25) rfl (by kernel_rfl) (fun K hK => ?_)
  go_simp
  go_at_call 45
  have hS := check_n w7 A1 L key xss text mt key.length xss.length c1 cL hHX.out.symm HMT.out rfl rfl (HT.out.frm' (HFD.out.trans' HF7.out)) (HKK.out _ HF7.out) (by omega) (by omega) (HRR.out _ HF7.out) (by omega) (by omega)
  rw [HA.out] at hS
  refine hS.mono ?_
  rintro _ w8 ⟨rfl, hf⟩
  have HF8 := Lib.hid (HF7.out.trans' hf)
  have hr8 := (HZD.out.frm' HF8.out).range HA.out
  clear hf hS
  try dsimp only
  refine hK.out _ _ hr8 (fun hHeld => ?_)
  clear hK K
  try simp only [Act.put, List.setIfInBounds_toArray, List.set_cons_zero, List.set_cons_succ]
  refine takeC (i := 26) (.bool false) rfl (by kernel_rfl) (by kernel_rfl) (by kernel_rfl) (fun _ _ _ h => h) (Or.inl ⟨by rfl, fun w hw => by go_simp⟩) hr8 ?_
  try simp only [Act.put, List.setIfInBounds_toArray, List.set_cons_zero, List.set_cons_succ]
  refine takeC (i := 27) (.bool false) rfl (by kernel_rfl) (by kernel_rfl) (by kernel_rfl) (fun _ _ _ h => h) (Or.inl ⟨by rfl, fun w hw => by go_simp⟩) hr8 ?_
  try simp only [Act.put, List.setIfInBounds_toArray, List.set_cons_zero, List.set_cons_succ]
  refine wpAnyH_done (by kernel_rfl) ?_ _
  clear hr0 hr6 hr7
  go_upto_region 8 with fail
  have hfd : Frm noB w8 w8.drew := (Frm.refl noB w8).drew
  have HF8D := Lib.hid (HF8.out.trans' hfd)
  have hrd := (HZD.out.frm' HF8D.out).range HA.out
  clear hfd hr8
  refine wp_region_held_drew (S := fun w' => w'.rangeAt w5.heap.size 0 cs) (by kernel_rfl) hrd (fun hHeld => ?_)
  generalize w8.drew = we at *
  refine takeC (i := 0) (.slice A1 (key.length + 64) c1) rfl (by kernel_rfl) (by kernel_rfl) (by kernel_rfl) (fun _ _ _ h => h) (Or.inl ⟨by rfl, fun w hw => by go_simp⟩) hrd ?_
  try simp only [Act.put, List.setIfInBounds_toArray, List.set_cons_zero, List.set_cons_succ]
  refine takeC (i := 1) (.slice A key.length c) rfl (by kernel_rfl) (by kernel_rfl) (by kernel_rfl) (fun _ _ _ h => h) (Or.inl ⟨by rfl, fun w hw => by go_simp⟩) hrd ?_
  try simp only [Act.put, List.setIfInBounds_toArray, List.set_cons_zero, List.set_cons_succ]
  refine takeC (i := 2) (.int .i64 key.length) rfl (by kernel_rfl) (by kernel_rfl) (by kernel_rfl) (fun _ _ _ h => h) (Or.inl ⟨by rfl, fun w hw => by go_simp⟩) hrd ?_
  try simp only [Act.put, List.setIfInBounds_toArray, List.set_cons_zero, List.set_cons_succ]
  refine takeC (i := 3) (.slice A1 key.length c1) rfl (by kernel_rfl) (by kernel_rfl) (by kernel_rfl) (fun _ _ _ h => h) (Or.inl ⟨by rfl, fun w hw => by go_simp⟩) hrd ?_
  try simp only [Act.put, List.setIfInBounds_toArray, List.set_cons_zero, List.set_cons_succ]
  refine takeC (i := 4) (.slice A4 text.length c4) rfl (by kernel_rfl) (by kernel_rfl) (by kernel_rfl) (fun _ _ _ h => h) (Or.inl ⟨by rfl, fun w hw => by go_simp⟩) hrd ?_
  try simp only [Act.put, List.setIfInBounds_toArray, List.set_cons_zero, List.set_cons_succ]
  refine takeC (i := 6) (.agg cs.toArray) rfl (by kernel_rfl) (by kernel_rfl) (by kernel_rfl) (fun _ _ _ h => h) (yieldsIf_load_mid (by rfl) _ _ rfl w5.heap.size 0 rfl cs _ (fun w hw => hw) HU.out rfl HSZ.out) hrd ?_
  try simp only [Act.put, List.setIfInBounds_toArray, List.set_cons_zero, List.set_cons_succ]
  refine consC (i := 5) rfl (by kernel_rfl) (fun K hK => ?_)
  go_simp
  go_at_call 46
  have hS := extract_any we A1 A4 key text c1 c4 (HT.out.frm' (HFD.out.trans' HF8D.out)) (HKK.out _ HF8D.out) (by omega) (by omega) (HTD.out.frm' HF8D.out) hc4 (by omega)
  rw [HMT.out] at hS
  refine hS.mono ?_
  rintro _ w9 ⟨rfl, hf⟩
  rw [HA.out]
  have HF9 := Lib.hid (HF8D.out.trans' hf)
  have hr9 := (HZD.out.frm' HF9.out).range HA.out
  clear hf hS
  try dsimp only
  refine hK.out _ _ hr9 (fun hHeld => ?_)
  clear hK K
  try simp only [Act.put, List.setIfInBounds_toArray, List.set_cons_zero, List.set_cons_succ]
  refine takeC (i := 7) (.bool false) rfl (by kernel_rfl) (by kernel_rfl) (by kernel_rfl) (fun _ _ _ h => h) (Or.inl ⟨by rfl, fun w hw => by go_simp⟩) hr9 ?_
  try simp only [Act.put, List.setIfInBounds_toArray, List.set_cons_zero, List.set_cons_succ]
  refine takeC (i := 8) (.bool false) rfl (by kernel_rfl) (by kernel_rfl) (by kernel_rfl) (fun _ _ _ h => h) (Or.inl ⟨by rfl, fun w hw => by go_simp⟩) hr9 ?_
  try simp only [Act.put, List.setIfInBounds_toArray, List.set_cons_zero, List.set_cons_succ]
  refine takeC (i := 9) (.slice A1 (key.length + 64) c1) rfl (by kernel_rfl) (by kernel_rfl) (by kernel_rfl) (fun _ _ _ h => h) (Or.inl ⟨by rfl, fun w hw => by go_simp⟩) hr9 ?_
  try simp only [Act.put, List.setIfInBounds_toArray, List.set_cons_zero, List.set_cons_succ]
  refine takeC (i := 10) (.slice A key.length c) rfl (by kernel_rfl) (by kernel_rfl) (by kernel_rfl) (fun _ _ _ h => h) (Or.inl ⟨by rfl, fun w hw => by go_simp⟩) hr9 ?_
  try simp only [Act.put, List.setIfInBounds_toArray, List.set_cons_zero, List.set_cons_succ]
  refine consC (i := 11) rfl (by kernel_rfl) (fun K hK => ?_)
  go_simp
  go_at_call 35
  refine (kept1_any w9 A1 A key c1 c (HKD.out.frm' HF9.out) (HX.out.frm' (HFD.out.trans' HF9.out)) (by omega)).mono ?_
  rintro _ w10 ⟨rfl, hf⟩
  have HF10 := Lib.hid (HF9.out.trans' hf)
  have hr10 := (HZD.out.frm' HF10.out).range HA.out
  clear hf
  try dsimp only
  refine hK.out _ _ hr10 (fun hHeld => ?_)
  clear hK K
  try simp only [Act.put, List.setIfInBounds_toArray, List.set_cons_zero, List.set_cons_succ]
  refine takeC (i := 12) (.bool false) rfl (by kernel_rfl) (by kernel_rfl) (by kernel_rfl) (fun _ _ _ h => h) (Or.inl ⟨by rfl, fun w hw => by go_simp⟩) hr10 ?_
  try simp only [Act.put, List.setIfInBounds_toArray, List.set_cons_zero, List.set_cons_succ]
  refine takeC (i := 13) (.bool false) rfl (by kernel_rfl) (by kernel_rfl) (by kernel_rfl) (fun _ _ _ h => h) (Or.inl ⟨by rfl, fun w hw => by go_simp⟩) hr10 ?_
  try simp only [Act.put, List.setIfInBounds_toArray, List.set_cons_zero, List.set_cons_succ]
  refine takeC (i := 14) (.bool false) rfl (by kernel_rfl) (by kernel_rfl) (by kernel_rfl) (fun _ _ _ h => h) (Or.inl ⟨by rfl, fun w hw => by go_simp⟩) hr10 ?_
  try simp only [Act.put, List.setIfInBounds_toArray, List.set_cons_zero, List.set_cons_succ]
  refine takeC (i := 15) (.slice F m cF) rfl (by kernel_rfl) (by kernel_rfl) (by kernel_rfl) (fun _ _ _ h => h) (Or.inl ⟨by rfl, fun w hw => by go_simp⟩) hr10 ?_
  try simp only [Act.put, List.setIfInBounds_toArray, List.set_cons_zero, List.set_cons_succ]
  refine takeC (i := 16) (.slice B xss.length d) rfl (by kernel_rfl) (by kernel_rfl) (by kernel_rfl) (fun _ _ _ h => h) (Or.inl ⟨by rfl, fun w hw => by go_simp⟩) hr10 ?_
  try simp only [Act.put, List.setIfInBounds_toArray, List.set_cons_zero, List.set_cons_succ]
  refine consC (i := 17) rfl (by kernel_rfl) (fun K hK => ?_)
  go_simp
  go_at_call 42
  have hS := rows_any w10 B xss d (HY.out.frm' (HFD.out.trans' HF10.out)) (by omega) (by omega)
  rw [HM.out] at hS
  refine hS.mono ?_
  rintro _ w11 ⟨G, cG, rfl, hg, hf⟩
  have HF11 := Lib.hid (HF10.out.trans' hf)
  have hr11 := (HZD.out.frm' HF11.out).range HA.out
  have HG := Lib.hid (Rd.of_own hg)
  clear hf hg hS
  try dsimp only
  refine hK.out _ _ hr11 (fun hHeld => ?_)
  clear hK K
  try simp only [Act.put, List.setIfInBounds_toArray, List.set_cons_zero, List.set_cons_succ]
  refine consC (i := 18) rfl (by kernel_rfl) (fun K hK => ?_)
  go_simp
  go_at_call 47
  have hS := same_n F G (rowsL xss) (rowsL xss) m m cF cG w11 HM.out HM.out ((Rd.of_own HOD.out).frm' HF11.out) HG.out (by unfold Len; omega) (by unfold Len; omega)
  rw [eql_true rfl] at hS
  refine hS.mono ?_
  rintro _ w12 ⟨rfl, hf⟩
  have HF12 := Lib.hid (HF11.out.trans' hf)
  have hr12 := (HZD.out.frm' HF12.out).range HA.out
  clear hf hS
  try dsimp only
  refine hK.out _ _ hr12 (fun hHeld => ?_)
  clear hK K
  try simp only [Act.put, List.setIfInBounds_toArray, List.set_cons_zero, List.set_cons_succ]
  refine takeC (i := 19) (.bool false) rfl (by kernel_rfl) (by kernel_rfl) (by kernel_rfl) (fun _ _ _ h => h) (Or.inl ⟨by rfl, fun w hw => by go_simp⟩) hr12 ?_
  try simp only [Act.put, List.setIfInBounds_toArray, List.set_cons_zero, List.set_cons_succ]
  refine takeC (i := 20) (.bool false) rfl (by kernel_rfl) (by kernel_rfl) (by kernel_rfl) (fun _ _ _ h => h) (Or.inl ⟨by rfl, fun w hw => by go_simp⟩) hr12 ?_
  try simp only [Act.put, List.setIfInBounds_toArray, List.set_cons_zero, List.set_cons_succ]
  refine wpAnyH_done (by kernel_rfl) ?_ _
  go_upto_region 10 with fail
  have HZ12 := Lib.hid (HZD.out.frm' HF12.out)
  obtain ⟨x31, hx31⟩ : ∃ x31 : UInt8, x31 = (sha mt).getD 31 0 := ⟨_, rfl⟩
  obtain ⟨n31, hn31⟩ : ∃ n31 : Int, n31 = (x31.toNat : Int) := ⟨_, rfl⟩
  obtain ⟨wo, hrun, ho, hfo⟩ := run_storeRow (P := Tryd.prog) (w := w12.alloc (.cells #[.int .u8 0, .int .u8 0, .int .u8 0, .int .u8 0, .int .u8 0, .int .u8 0, .int .u8 0, .int .u8 0, .int .u8 0, .int .u8 0, .int .u8 0, .int .u8 0, .int .u8 0, .int .u8 0, .int .u8 0, .int .u8 0, .int .u8 0, .int .u8 0, .int .u8 0, .int .u8 0, .int .u8 0, .int .u8 0, .int .u8 0, .int .u8 0, .int .u8 0, .int .u8 0, .int .u8 0, .int .u8 0, .int .u8 0, .int .u8 0, .int .u8 0, .int .u8 0] 26)) (Blk.new _ _ _) (cs := arr 32 (shaAt mt)) (by rw [arr_size]; rfl) (one_arr fun i _ => rfl)
  have HOO := Lib.hid ho
  have HF12O : Hid (Frm noB w12 wo) := Lib.hid (((Frm.refl noB w12).alloc (.cells #[.int .u8 0, .int .u8 0, .int .u8 0, .int .u8 0, .int .u8 0, .int .u8 0, .int .u8 0, .int .u8 0, .int .u8 0, .int .u8 0, .int .u8 0, .int .u8 0, .int .u8 0, .int .u8 0, .int .u8 0, .int .u8 0, .int .u8 0, .int .u8 0, .int .u8 0, .int .u8 0, .int .u8 0, .int .u8 0, .int .u8 0, .int .u8 0, .int .u8 0, .int .u8 0, .int .u8 0, .int .u8 0, .int .u8 0, .int .u8 0, .int .u8 0, .int .u8 0] 26)).trans hfo fun k hk h => by have h : k = w12.heap.size := h; omega)
  have HRUN := Lib.hid hrun
  have ho31 : wo.cell? ⟨w12.heap.size, 31, none⟩ = some (.int .u8 n31) := by rw [ho.at_ (by omega), hn31, hx31]; rfl
  have hz31 : wo.frozen? ⟨w12.heap.size, 31, none⟩ = false := ho.frozen 31
  have HX31 := Lib.hid hx31
  have HN31 := Lib.hid hn31
  clear hrun ho hfo hx31 hn31 hr12 hr11 hr10 hr9 hrd hE
  go_upto_region 12 with (first | (refine wpList_load_row rfl _ _ rfl w5.heap.size rfl 26 _ (0, 0) _ HZ12.out Tryd.underlying26 rfl (by rw [arr_size]; kernel_rfl) ?_) | (refine wpList_storeRow rfl _ _ _ rfl rfl w12.heap.size rfl _ rfl (size_arr _ _) HRUN.out ?_))
  have hv31 : Value.int .u8 (bits .xor .u8 n31 1) = bv ((sha mt).getD 31 0 ^^^ 1) := by
    rw [← HX31.out]
    unfold bv
    congr 1
    have h := bv_xor x31 1
    rw [HN31.out]
    exact h
  have hq := (HOO.out.put 31 (.int .u8 (bits .xor .u8 n31 1)))
  rw [turn_arr mt hv31] at hq
  have HQ := Lib.hid hq
  have HF12Q : Hid (Frm noB w12 (wo.setCell ⟨w12.heap.size, 31, none⟩ (.int .u8 (bits .xor .u8 n31 1)))) := Lib.hid (HF12O.out.setCell (.inr (Nat.le_refl _)) _)
  clear hv31 hq ho31 hz31
  generalize wo.setCell ⟨w12.heap.size, 31, none⟩ (.int .u8 (bits .xor .u8 n31 1)) = wq at *
  have hfd : Frm noB wq wq.drew := (Frm.refl noB wq).drew
  have HF13 := Lib.hid (HF12.out.trans' (HF12Q.out.trans' hfd))
  obtain ⟨cq, hcq⟩ : ∃ cq : List Value, cq = (List.range 32).map (codeF (turnL mt)) := ⟨_, rfl⟩
  have harr : arr 32 (codeF (turnL mt)) = cq.toArray := by rw [hcq]; rfl
  have HAQ := Lib.hid harr
  have HSQ : Hid ((Tryd.prog.info? 26).map (·.size) = some cq.length) := Lib.hid (by rw [hcq, List.length_map, List.length_range]; rfl)
  have HQD := Lib.hid (HQ.out.frm' hfd)
  have hrq := HQD.out.range harr
  clear hcq harr hfd
  refine wp_region_held_drew (S := fun w' => w'.rangeAt w12.heap.size 0 cq) (by kernel_rfl) hrq (fun hHeld => ?_)
  generalize wq.drew = wp at *
  refine takeC (i := 0) (.slice A1 (key.length + 64) c1) rfl (by kernel_rfl) (by kernel_rfl) (by kernel_rfl) (fun _ _ _ h => h) (Or.inl ⟨by rfl, fun w hw => by go_simp⟩) hrq ?_
  try simp only [Act.put, List.setIfInBounds_toArray, List.set_cons_zero, List.set_cons_succ]
  refine takeC (i := 1) (.slice A key.length c) rfl (by kernel_rfl) (by kernel_rfl) (by kernel_rfl) (fun _ _ _ h => h) (Or.inl ⟨by rfl, fun w hw => by go_simp⟩) hrq ?_
  try simp only [Act.put, List.setIfInBounds_toArray, List.set_cons_zero, List.set_cons_succ]
  refine takeC (i := 2) (.int .i64 key.length) rfl (by kernel_rfl) (by kernel_rfl) (by kernel_rfl) (fun _ _ _ h => h) (Or.inl ⟨by rfl, fun w hw => by go_simp⟩) hrq ?_
  try simp only [Act.put, List.setIfInBounds_toArray, List.set_cons_zero, List.set_cons_succ]
  refine takeC (i := 3) (.slice A1 key.length c1) rfl (by kernel_rfl) (by kernel_rfl) (by kernel_rfl) (fun _ _ _ h => h) (Or.inl ⟨by rfl, fun w hw => by go_simp⟩) hrq ?_
  try simp only [Act.put, List.setIfInBounds_toArray, List.set_cons_zero, List.set_cons_succ]
  refine takeC (i := 4) (.agg cq.toArray) rfl (by kernel_rfl) (by kernel_rfl) (by kernel_rfl) (fun _ _ _ h => h) (yieldsIf_load_mid (by rfl) _ _ rfl w12.heap.size 0 rfl cq _ (fun w hw => hw) HU.out rfl HSQ.out) hrq ?_
  try simp only [Act.put, List.setIfInBounds_toArray, List.set_cons_zero, List.set_cons_succ]
  refine takeC (i := 5) (.slice L xss.length cL) rfl (by kernel_rfl) (by kernel_rfl) (by kernel_rfl) (fun _ _ _ h => h) (Or.inl ⟨by rfl, fun w hw => by go_simp⟩) hrq ?_
  try simp only [Act.put, List.setIfInBounds_toArray, List.set_cons_zero, List.set_cons_succ]
  refine consC (i := 6) rfl (by kernel_rfl) (fun K hK => ?_)
  go_simp
  go_at_call 45
  have hS := check_bad wp A1 L key xss text mt (turnL mt) key.length xss.length c1 cL (turnL_length mt) (turnL_ne mt) hHX.out.symm HMT.out rfl rfl (HT.out.frm' (HFD.out.trans' HF13.out)) (HKK.out _ HF13.out) (by omega) (by omega) (HRR.out _ HF13.out) (by omega) (by omega)
  rw [HAQ.out] at hS
  refine hS.mono ?_
  rintro _ w14 ⟨rfl, hf⟩
  have HF14 := Lib.hid (HF13.out.trans' hf)
  have hr14 := (HQD.out.frm' hf).range HAQ.out
  clear hf hS
  try dsimp only
  refine hK.out _ _ hr14 (fun hHeld => ?_)
  clear hK K
  try simp only [Act.put, List.setIfInBounds_toArray, List.set_cons_zero, List.set_cons_succ]
  refine wpAnyH_done (by kernel_rfl) ?_ _
  go_upto_region 14 with fail
  have HC0 : Hid (CutS w1 w14 w2.heap.size F L cF cL xss xss) := Lib.hid ⟨Alike.refl _, own_frm' HLD.out HF14.out, (FO.of_own HOD.out).frm' HF14.out, HGD.out.trans' HF14.out, by rw [HM.out]; exact hcF⟩
  clear HF6 HF7 HF8 HF8D HF9 HF10 HF11 HF12 HF13 HF14 HRR HKK HLD HOD HTD HKD HZD HQD HQ hrq hr14 HG2 HG3 HG4 HGD HFD HZ12 HF12O HF12Q HOO HRUN
  go_wp2_with fail
  go_loopw [11] (fun i wr => ∃ (k : Nat) (yss : List (List UInt8)), k ≤ xss.length ∧ i = .int .i64 k ∧ CutS w1 wr w2.heap.size F L cF cL xss yss) (fun i _ => xss.length - (intOf i).toNat)
  case atStart => exact ⟨0, xss, Nat.zero_le _, rfl, HC0.out⟩
  case round =>
    clear HC0
    obtain ⟨k, yss, hk, rfl, hC⟩ := hrel
    have HC := Lib.hid hC
    clear hC
    by_cases hlt : k < xss.length
    · obtain ⟨g, l, hFe, hLe, hg, hlg, _, _⟩ := HC.out.places hlt
      subst hLe
      have hak : atL xss k ≤ m := by rw [← HM.out]; exact atL_le xss k
      have hek := elem_le xss hlt
      obtain ⟨a, ha⟩ : ∃ a, a = atL xss k := ⟨_, rfl⟩
      obtain ⟨q, hq⟩ : ∃ q, q = cF - atL xss k := ⟨_, rfl⟩
      have hxq : xss[k].length ≤ q := by
        have h := atL_succ xss hlt
        have h' := atL_le xss (k + 1)
        have := HM.out
        omega
      have HAK := Lib.hid ha.symm
      have HQK := Lib.hid hq.symm
      have ham : a ≤ m := by omega
      have HP : Hid (∀ wr zss, CutS w1 wr w2.heap.size F (some ⟨l, 0, none⟩) cF cL xss zss → wr.cell? ⟨l, k, none⟩ = some (.slice (some ⟨g, a, none⟩) xss[k].length q) ∧ ∀ j (hj : j < xss[k].length), ∃ n : Int, wr.cell? ⟨g, a + j, none⟩ = some (.int .u8 n) ∧ wr.frozen? ⟨g, a + j, none⟩ = false) := Lib.hid fun wr zss h => by
        obtain ⟨g', l', e1, e2, _, _, h1, h2⟩ := h.places hlt
        have e3 : g' = g := by rw [hFe] at e1; injection e1 with e1; injection e1 with e1; exact e1.symm
        have e4 : l' = l := by injection e2 with e2; injection e2 with e2; exact e2.symm
        subst e3; subst e4
        rw [← hq, ← ha] at h1
        rw [← ha] at h2
        exact ⟨h1, h2⟩
      have HPUT : Hid (∀ wr zss, CutS w1 wr w2.heap.size F (some ⟨l, 0, none⟩) cF cL xss zss → ∀ j, j < xss[k].length → ∀ n : Int, 0 ≤ n → n ≤ 255 → ∃ uss, CutS w1 (wr.setCell ⟨g, a + j, none⟩ (.int .u8 n)) w2.heap.size F (some ⟨l, 0, none⟩) cF cL xss uss) := Lib.hid fun wr zss h j hj n h0 h1 => by
        rw [ha]
        exact h.put hlt hj hFe h0 h1
      clear ha hq hak hFe
      generalize hxl : xss[k].length = xl at *
      have HXL := Lib.hid hxl
      clear hxl
      obtain ⟨hcl, _⟩ := HP.out _ _ HC.out
      go_wp2_with fail
      clear hcl
      go_loopw [12] (fun j wr => ∃ (n : Nat) (zss : List (List UInt8)), n ≤ xl ∧ j = .int .i64 n ∧ CutS w1 wr w2.heap.size F (some ⟨l, 0, none⟩) cF cL xss zss) (fun j _ => xl - (intOf j).toNat)
      case atStart => exact ⟨0, yss, Nat.zero_le _, rfl, HC.out⟩
      case round =>
        clear HC
        obtain ⟨j, zss, hj, rfl, hC⟩ := hrel
        have HC := Lib.hid hC
        obtain ⟨hcl, hbt⟩ := HP.out _ _ hC
        clear hC
        by_cases hjl : j < xl
        · obtain ⟨n, hb, hz⟩ := hbt j hjl
          have hcd : wr.drew.cell? ⟨l, k, none⟩ = some (.slice (some ⟨g, a, none⟩) xl q) := hcl
          have hbd : wr.drew.cell? ⟨g, a + j, none⟩ = some (.int .u8 n) := hb
          have hzd : wr.drew.frozen? ⟨g, a + j, none⟩ = false := hz
          clear hbt
          go_wp2_with fail
          clear hcd hbd hzd
          go_still_tail 14, (by kernel_rfl)
          change wpList _ _ _ _ _ wr.drew
          have hc2 : wr.drew.cell? ⟨l, k, none⟩ = some (.slice (some ⟨g, a, none⟩) xl q) := hcl
          have hb2 : wr.drew.cell? ⟨g, a + j, none⟩ = some (.int .u8 n) := hb
          have hz2 : wr.drew.frozen? ⟨g, a + j, none⟩ = false := hz
          have HCd := Lib.hid (HC.out.frm' (Frm.refl noB wr).drew)
          clear hcl hb hz
          generalize wr.drew = wv at *
          go_wp2_with fail
          obtain ⟨uss, hU⟩ := HPUT.out _ _ HCd.out j hjl _ (bits_lo_u8 _ _ _) (bits_hi_u8 _ _ _)
          exact ⟨⟨j + 1, uss, by omega, by go_num, hU⟩, by simp [intOf]; omega⟩
        · have e : j = xl := by omega
          subst e
          go_wp2_with fail
          exact ⟨⟨k + 1, zss, by omega, by go_num, HC.out⟩, by simp [intOf]; omega⟩
    · have e : k = xss.length := by omega
      subst e
      have hyl : yss.length = xss.length := HC.out.alike.1
      have hyf : yss.flatten.length = xss.flatten.length := HC.out.alike.flat
      obtain ⟨s, hs⟩ : ∃ s, s = yss.flatten := ⟨_, rfl⟩
      have hsl : s.length ≤ 2000000 := by rw [hs]; omega
      obtain ⟨m2, hm2⟩ : ∃ m2, m2 = macT key s := ⟨_, rfl⟩
      have hS := twins_any wr L yss cL HC.out.rows (by omega) (by omega)
      rw [hyl] at hS
      have HS := Lib.hid hS
      have HYL := Lib.hid hyl
      have HSS := Lib.hid hs
      have HM2 := Lib.hid hm2.symm
      have HW1 := Lib.hid (HFA.out.trans' HC.out.frm)
      have hE2 : ∀ w : World, (Op.equalIn 10000 26 (.agg (arr 32 (shaAt m2))) (.agg (arr 32 (shaAt m2)))).run Tryd.prog w = .ok true w := fun w => eq_sha' w m2
      clear hyl hyf hs hm2 hS
      go_wp2_with fail
      refine HS.out.mono ?_
      rintro _ wa ⟨T, cT, vs, rfl, hot, hf⟩
      have HOT := Lib.hid hot
      have HWA := Lib.hid hf
      clear hot hf
      try dsimp only
      go_wp2_with fail
      have hkk : Rd wa A1 (key.map bv) := by
        have h := ((HKW.out.frm' HC.out.frm).frm' HWA.out).takeB key.length
        unfold lentL at h
        rwa [List.take_left] at h
      have hS := dersum_n wa A1 L key yss key.length xss.length c1 cL s rfl HYL.out HSS.out.symm (HT.out.frm' (HW1.out.trans' HWA.out)) hkk (by omega) (by omega) (HC.out.frm' HWA.out).rows (by omega) (by omega)
      rw [HM2.out] at hS
      refine hS.mono ?_
      rintro _ wb ⟨rfl, hf⟩
      have HWB := Lib.hid (HWA.out.trans' hf)
      have hOT := (HOT.out.frm' hf).rd.2
      clear hf hS hkk
      have hS := join4_any wb T yss cT hOT (by rw [← HSS.out]; unfold JLen; omega) (by rw [HYL.out]; unfold JLen; omega)
      rw [HYL.out, ← HSS.out] at hS
      have HS := Lib.hid hS
      clear hS hOT
      try dsimp only
      go_wp2_with fail
      refine HS.out.mono ?_
      rintro _ we ⟨A5, c5, rfl, ho5, hf5⟩
      have HR5 := Lib.hid (Rd.of_own ho5)
      have HWE := Lib.hid (HWB.out.trans' hf5)
      clear ho5 hf5
      try dsimp only
      go_wp2_with fail
      have hS := rmac_n we A A5 key s key.length s.length c c5 rfl rfl (HX.out.frm' (HW1.out.trans' HWE.out)) HR5.out (by unfold JLen; omega) (by omega)
      rw [HM2.out] at hS
      refine hS.mono ?_
      rintro _ wf ⟨rfl, hf⟩
      have HWF := Lib.hid (HWE.out.trans' hf)
      clear hf hS
      try dsimp only
      go_wp2_with fail
      refine (works04 wf (HT.out.frm' (HW1.out.trans' HWF.out))).mono ?_
      rintro _ wg ⟨rfl, hf⟩
      have HWG := Lib.hid ((HW1.out.trans' HWF.out).trans' hf)
      clear hf
      try dsimp only
      go_wp2_with fail
      go_ret
      exact ⟨rfl, HWG.out⟩
end Go.Proofs.YtkhakddecmgejaaDoor
