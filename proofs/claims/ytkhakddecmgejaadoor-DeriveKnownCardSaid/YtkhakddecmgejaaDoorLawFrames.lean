/-
  trystlaw04.DeriveFrames: the walk.
-/
import Derived.Test.YtkhakddecmgejaaDoorWorks04b
import Derived.Test.YtkhakddecmgejaaDoorRef01
import Derived.Deep.CutBlock
import Derived.Test.YtkhakddecmgejaaDoorLawPieces
namespace Go.Proofs.YtkhakddecmgejaaDoor
open Go.RowKit
set_option linter.unusedVariables false
set_option linter.unusedSimpArgs false

theorem u64_ge (z : Int) : 0 ≤ IntKind.u64.wrap z := (wrap_within .u64 z).1
/-- bytes 0 behind a short key -/
theorem padKey_zeros (key : List UInt8) (k : Nat) (h : k = 0 ∨ key.length + k ≤ 64) : padKey (key ++ List.replicate k 0) = padKey key := by
  rcases h with rfl | h
  · simp
  · have e1 : shortKey (key ++ List.replicate k 0) = key ++ List.replicate k 0 := if_neg (by simp; omega)
    have e2 : shortKey key = key := if_neg (by omega)
    unfold padKey
    rw [e1, e2, List.append_assoc, List.length_append, List.length_replicate, List.replicate_append_replicate]
    congr 2
    omega
theorem macT_zeros (key text : List UInt8) (k : Nat) (h : k = 0 ∨ key.length + k ≤ 64) : macT (key ++ List.replicate k 0) text = macT key text := by
  unfold macT macIn
  rw [padKey_zeros key k h]

theorem newmac_n (w : World) (A : Option Addr) (key : List UInt8) (n cap : Nat) (hn : key.length = n) (hT : TabOk w) (hx : Rd w A (key.map bv)) (hc : n ≤ cap) (hl : n ≤ 1000000000) :
    Calls Tryd.prog 34 #[.slice A n cap] w fun e w' => ∃ mm b, e = .returned (.pointer (some ⟨mm, 0, none⟩)) ∧ w.heap.size ≤ mm ∧ w.heap.size ≤ b ∧ IsMac w' mm b key [] ∧ Frm noB w w' := by
  subst hn
  exact newmac_any w A key cap hT hx hc hl
theorem macwrite_n (w : World) (mm b : Nat) (key text : List UInt8) (A : Option Addr) (xs : List UInt8) (n c : Nat) (hn : xs.length = n) (hT : TabOk w) (hM : IsMac w mm b key text) (hx : Rd w A (xs.map bv)) (hA : xs ≠ [] → ∀ q, aB A q → q ≠ b) (hc : n ≤ c) (hm : text.length ≤ 1000000000) (hl : n ≤ 1000000000) :
    Calls Tryd.prog 36 #[.pointer (some ⟨mm, 0, none⟩), .slice A n c] w fun e w' => e = .returned (.tuple #[.int .i64 n, Value.nilIface]) ∧ IsMac w' mm b key (text ++ xs) ∧ Frm (isB b) w w' := by
  subst hn
  exact macwrite_any w mm b key text A xs c hT hM hx hA hc hm hl
theorem Rd.takeB {w : World} {A : Option Addr} {xs : List UInt8} (h : Rd w A (xs.map bv)) (n : Nat) : Rd w A ((xs.take n).map bv) := fun i hi => by
  have hi' : i < xs.length := by simp at hi; omega
  obtain ⟨b, off, e, hc⟩ := h i (by simpa using hi')
  exact ⟨b, off, e, by rw [hc]; simp⟩
theorem Rd.dropO {w : World} {A : Option Addr} {xs : List UInt8} (h : Rd w A (xs.map bv)) (n : Nat) : Rd w (Option.map (fun x => x.add n) A) ((xs.drop n).map bv) := fun i hi => by
  have hi' : n + i < xs.length := by simp at hi; omega
  obtain ⟨b', off, e, hc⟩ := h (n + i) (by simpa using hi')
  subst e
  refine ⟨b', off + n, ?_, by rw [show off + n + i = off + (n + i) by omega, hc]; simp⟩
  simp only [Option.map_some]
  unfold Addr.add
  split
  · rename_i h0; subst h0; rfl
  · rfl
theorem aB_add {A : Option Addr} {n q : Nat} (h : aB (Option.map (fun x => x.add n) A) q) : aB A q := by
  obtain ⟨a, ha, hq⟩ := h
  cases A with
  | none => simp at ha
  | some x =>
    simp only [Option.map_some] at ha
    injection ha with ha
    refine ⟨x, rfl, ?_⟩
    rw [← hq, ← ha]
    unfold Addr.add
    split <;> rfl
theorem Rd.dropB {w : World} {b o : Nat} {xs : List UInt8} (h : Rd w (some ⟨b, o, none⟩) (xs.map bv)) (n : Nat) : Rd w (some ⟨b, o + n, none⟩) ((xs.drop n).map bv) := fun i hi => by
  have hi' : n + i < xs.length := by simp at hi; omega
  obtain ⟨b', off, e, hc⟩ := h (n + i) (by simpa using hi')
  cases e
  exact ⟨b, o + n, rfl, by rw [show o + n + i = o + (n + i) by omega, hc]; simp⟩

set_option maxRecDepth 100000 in
set_option maxHeartbeats 4000000 in
theorem deriveFrames_any (w : World) (A B : Option Addr) (key text : List UInt8) (c d : Nat) (z : Int) (hz : -9223372036854775808 ≤ z ∧ z ≤ 9223372036854775807) (hT : TabOk w) (hx : Rd w A (key.map bv)) (hy : Rd w B (text.map bv)) (hc : key.length ≤ c) (hd : text.length ≤ d) (h1 : key.length ≤ 100000000) (h2 : text.length ≤ 100000000) :
    Calls Tryd.prog 9 #[.slice A key.length c, .slice B text.length d, .int .i64 z] w fun e w' => e = .returned (.bool true) ∧ Frm noB w w' := by
  have HT := Lib.hid hT
  have HX := Lib.hid hx
  have HY := Lib.hid hy
  clear hT hx hy
  go_enter Tryd.func9, Tryd.ntmps9
  go_wp2_with fail
  refine (twin_any w A key c HX.out (by omega)).mono ?_
  rintro _ w1 ⟨A1, c1, rfl, ho, hf⟩
  have HO1 := Lib.hid ho
  have HF1 := Lib.hid hf
  clear ho hf
  try dsimp only
  go_upto_block 0 with fail
  obtain ⟨Z, hZ, hZ65⟩ : ∃ Z : Nat, wrap64 ((IntKind.u64.wrap z).tmod 65) = (Z : Int) ∧ Z < 65 := by
    have h0 : 0 ≤ (IntKind.u64.wrap z).tmod 65 := Int.tmod_nonneg _ (u64_ge z)
    have h1 : (IntKind.u64.wrap z).tmod 65 < 65 := Int.tmod_lt_of_pos _ (by decide)
    refine ⟨((IntKind.u64.wrap z).tmod 65).toNat, ?_, by omega⟩
    rw [Int.toNat_of_nonneg h0]
    unfold wrap64
    omega
  go_cut [7] (fun v wx => ∃ k : Nat, k ≤ 64 ∧ (k = 0 ∨ key.length + k ≤ 64) ∧ wx.ownsRow w.heap.size 5 1 v (key.length + k) ((key ++ List.replicate k 0).map bv) ∧ Frm noB w wx)
  case first =>
    go_wp2_with fail
    go_loopw [7, 8] (fun v i wr => ∃ k : Nat, k ≤ 64 ∧ (k = 0 ∨ key.length + k ≤ 64) ∧ i = .int .i64 k ∧ wr.ownsRow w.heap.size 5 1 v (key.length + k) ((key ++ List.replicate k 0).map bv) ∧ Frm noB w wr) (fun _ i _ => 65 - (intOf i).toNat)
    case atStart => exact ⟨0, Nat.zero_le _, .inl rfl, rfl, by simpa using HO1.out, HF1.out⟩
    case round =>
      clear HO1 HF1
      obtain ⟨k, hk, hk2, rfl, hown, hf⟩ := hrel
      obtain ⟨Av, cv, rfl, hcv⟩ := own_slice hown
      have HO := Lib.hid hown
      have HF := Lib.hid hf
      have HK2 := Lib.hid hk2
      have hsz := hf.size
      clear hown hf hk2
      by_cases hkz : k < Z
      · by_cases hlt : key.length + k < 64
        · have HYS : Hid ((key ++ List.replicate k 0).map bv ++ [.int .u8 0] = (key ++ List.replicate (k + 1) 0).map bv) := Lib.hid (by
            rw [List.replicate_succ', ← List.append_assoc, List.map_append (l₂ := [0])]; rfl)
          go_wp2_with (at_builtin; refine app1N info29 rfl w.heap.size HO.out (.tmp 26) (.tmp 27) rfl rfl rfl rfl rfl (key.length + (k + 1)) (by omega) _ HYS.out (by omega) (by omega) hsz ?_; intro A' c' w' hown' hcc hf' hv'; have HO' := Lib.hid hown'; have HF' := Lib.hid hf'; clear hown' hf' hv')
          exact ⟨⟨k + 1, by omega, .inr (by omega), by go_num, HO'.out, HF.out.trans HF'.out fun j hj hv => by have := own_lt HO.out j hv; omega⟩, by simp [intOf]; omega⟩
        · go_wp2_with fail
          go_meet
          exact ⟨k, hk, HK2.out, HO.out, HF.out⟩
      · go_wp2_with fail
        go_meet
        exact ⟨k, hk, HK2.out, HO.out, HF.out⟩
  case rest =>
    obtain ⟨k, hk, hk2, hown, hf⟩ := hcut
    obtain ⟨Ak, ck, rfl, hck⟩ := own_slice hown
    obtain ⟨mt, hmt⟩ : ∃ mt, mt = macT key text := ⟨_, rfl⟩
    obtain ⟨kk, hkk⟩ : ∃ kk, kk = key ++ List.replicate k 0 := ⟨_, rfl⟩
    have hmk : macT kk text = mt := by rw [hkk, hmt]; exact macT_zeros key text k hk2
    have hkl : kk.length = key.length + k := by rw [hkk]; simp
    rw [← hkk] at hown
    have HO := Lib.hid (Rd.of_own hown)
    have HF := Lib.hid hf
    have HMK := Lib.hid hmk
    have HKL := Lib.hid hkl
    have HS1 := Lib.hid (dersum1 wc A B key text _ _ c d rfl rfl (HT.out.frm' hf) (HX.out.frm' hf) hc (by omega) (HY.out.frm' hf) hd (by omega))
    have hs1 := HS1.out
    rw [← hmt] at hs1
    have HS := Lib.hid hs1
    clear hown hf hk2 hmt hkk hmk hkl HS1 hs1 HO1 HF1 hZ hZ65
    go_wp2_with fail
    refine HS.out.mono ?_
    rintro _ w3 ⟨rfl, hf⟩
    obtain ⟨wz, hrun, hz, hfz⟩ := run_storeRow (P := Tryd.prog) (w := w3.alloc (.cells #[.int .u8 0, .int .u8 0, .int .u8 0, .int .u8 0, .int .u8 0, .int .u8 0, .int .u8 0, .int .u8 0, .int .u8 0, .int .u8 0, .int .u8 0, .int .u8 0, .int .u8 0, .int .u8 0, .int .u8 0, .int .u8 0, .int .u8 0, .int .u8 0, .int .u8 0, .int .u8 0, .int .u8 0, .int .u8 0, .int .u8 0, .int .u8 0, .int .u8 0, .int .u8 0, .int .u8 0, .int .u8 0, .int .u8 0, .int .u8 0, .int .u8 0, .int .u8 0] 26)) (Blk.new _ _ _) (cs := arr 32 (shaAt mt)) (by rw [arr_size]; rfl) (one_arr fun i _ => rfl)
    have HZ := Lib.hid hz
    have HFZ : Hid (Frm noB wc wz) := Lib.hid (hf.trans' (((Frm.refl noB w3).alloc (.cells #[.int .u8 0, .int .u8 0, .int .u8 0, .int .u8 0, .int .u8 0, .int .u8 0, .int .u8 0, .int .u8 0, .int .u8 0, .int .u8 0, .int .u8 0, .int .u8 0, .int .u8 0, .int .u8 0, .int .u8 0, .int .u8 0, .int .u8 0, .int .u8 0, .int .u8 0, .int .u8 0, .int .u8 0, .int .u8 0, .int .u8 0, .int .u8 0, .int .u8 0, .int .u8 0, .int .u8 0, .int .u8 0, .int .u8 0, .int .u8 0, .int .u8 0, .int .u8 0] 26)).trans hfz fun k hk h => by have h : k = w3.heap.size := h; omega))
    have HRUN := Lib.hid hrun
    have hzl := hz.lt
    clear hf hz hfz hrun HS
    try dsimp only
    go_wp2_with (refine wpList_storeRow rfl _ _ _ rfl rfl w3.heap.size rfl _ rfl (size_arr _ _) HRUN.out ?_)
    refine (newmac_n wz Ak kk (key.length + k) ck HKL.out (HT.out.frm' (HF.out.trans' HFZ.out)) (HO.out.frm' HFZ.out) hck (by omega)).mono ?_
    rintro _ w4 ⟨mm, b, rfl, hm, hb, hM, hf4⟩
    have HM4 := Lib.hid hM
    have HF4 := Lib.hid ((HF.out.trans' HFZ.out).trans' hf4)
    have HZ4 := Lib.hid (HZ.out.frm' hf4)
    have hwb : w.heap.size ≤ wz.heap.size := (HF.out.trans' HFZ.out).size
    have HNB : Hid (∀ q, text ≠ [] → aB B q → q ≠ b) := Lib.hid fun q hne hq => by
      have := HY.out.lt (by simpa using List.length_pos_iff.2 hne) q hq
      omega
    have HF45 := Lib.hid hf4
    clear hM hf4
    try dsimp only
    go_wp2_with fail
    have htk : (text.take (text.length / 2)).length = text.length / 2 := by simp; omega
    have HTK := Lib.hid htk
    clear htk
    refine (macwrite_n w4 mm b kk [] B (text.take (text.length / 2)) (text.length / 2) d HTK.out (HT.out.frm' HF4.out) HM4.out ((HY.out.frm' HF4.out).takeB _) (fun hne q hq => HNB.out q (by intro e; apply hne; rw [e]; rfl) hq) (by omega) (by simp) (by omega)).mono ?_
    rintro _ w5 ⟨rfl, hM, hf5⟩
    have HM5 : Hid (IsMac w5 mm b kk (text.take (text.length / 2))) := Lib.hid (by rwa [List.nil_append] at hM)
    have HF5 : Hid (Frm noB w w5) := Lib.hid (HF4.out.trans hf5 fun k hk h => by have h : k = b := h; omega)
    have HF55 := Lib.hid hf5
    have HZ5 := Lib.hid (HZ4.out.frm hf5 (fun h => by have h : w3.heap.size = b := h; omega))
    clear hM hf5
    have HDR := Lib.hid ((HY.out.frm' HF5.out).dropO (text.length / 2))
    have htd : (text.drop (text.length / 2)).length = text.length - text.length / 2 := by simp
    have HTD := Lib.hid htd
    have hcase : text.length / 2 < d ∨ (d ≤ 0 ∧ text.length ≤ 0) := by omega
    clear htd
    try dsimp only
    rcases hcase with hcap | ⟨hcap, htl⟩
    all_goals
      go_wp2_with fail
      refine (macwrite_n w5 mm b kk (text.take (text.length / 2)) _ (text.drop (text.length / 2)) (text.length - text.length / 2) _ HTD.out (HT.out.frm' HF5.out) HM5.out (by first | exact HDR.out | (have e : text = [] := List.eq_nil_of_length_eq_zero (by omega); subst e; exact Rd.nil _ _)) (fun hne q hq => HNB.out q (by intro e; apply hne; rw [e]; rfl) (by first | exact hq | exact aB_add hq)) (by omega) (by rw [HTK.out]; omega) (by omega)).mono ?_
      rintro _ w6 ⟨rfl, hM, hf6⟩
      have HM6 : Hid (IsMac w6 mm b kk text) := Lib.hid (by rwa [List.take_append_drop] at hM)
      have HF6 : Hid (Frm noB w w6) := Lib.hid (HF5.out.trans hf6 fun k hk h => by have h : k = b := h; omega)
      have HZ6 := Lib.hid (HZ5.out.frm hf6 (fun h => by have h : w3.heap.size = b := h; omega))
      have HO6 : Hid (Rd w6 Ak (kk.map bv)) := Lib.hid (((HO.out.frm' HFZ.out).frm' HF45.out).frmN ((HF55.out).trans' hf6) fun hne q hq h => by have h : q = b := h; have := (HO.out.frm' HFZ.out).lt (List.length_pos_iff.2 hne) q hq; omega)
      clear hM hf6
      try dsimp only
      go_wp2_with fail
      obtain ⟨cs, hcs⟩ : ∃ cs : List Value, cs = (List.range 32).map (shaAt mt) := ⟨_, rfl⟩
      have harr : arr 32 (shaAt mt) = cs.toArray := by rw [hcs]; rfl
      have HA := Lib.hid harr
      have hE : ∀ w : World, (Op.equalIn 10000 26 (.agg cs.toArray) (.agg cs.toArray)).run Tryd.prog w = .ok true w := fun w => by rw [← harr]; exact eq_sha' w mt
      have HU : Hid (Tryd.prog.underlying 26 = some (.array 32 5)) := Lib.hid Tryd.underlying26
      have HSZ : Hid ((Tryd.prog.info? 26).map (·.size) = some cs.length) := Lib.hid (by rw [hcs, List.length_map, List.length_range]; rfl)
      have hfd : Frm noB w6 w6.drew := (Frm.refl noB w6).drew
      have hr0 := (HZ6.out.frm' hfd).range harr
      have HFD := Lib.hid hfd
      clear hcs harr hfd
      refine wp_region_held_drew (S := fun w' => w'.rangeAt w3.heap.size 0 cs) (by kernel_rfl) hr0 (fun hHeld => ?_)
      refine takeC (i := 0) (.slice Ak (key.length + k) ck) rfl (by kernel_rfl) (by kernel_rfl) (by kernel_rfl) (fun _ _ _ h => h) (Or.inl ⟨by rfl, fun w hw => by go_simp⟩) hr0 ?_
      try simp only [Act.put, List.setIfInBounds_toArray, List.set_cons_zero, List.set_cons_succ]
      refine takeC (i := 1) (.slice B text.length d) rfl (by kernel_rfl) (by kernel_rfl) (by kernel_rfl) (fun _ _ _ h => h) (Or.inl ⟨by rfl, fun w hw => by go_simp⟩) hr0 ?_
      try simp only [Act.put, List.setIfInBounds_toArray, List.set_cons_zero, List.set_cons_succ]
      refine takeC (i := 4) (.agg cs.toArray) rfl (by kernel_rfl) (by kernel_rfl) (by kernel_rfl) (fun _ _ _ h => h) (yieldsIf_load_mid (by rfl) _ _ rfl w3.heap.size 0 rfl cs _ (fun w hw => hw) HU.out rfl HSZ.out) hr0 ?_
      try simp only [Act.put, List.setIfInBounds_toArray, List.set_cons_zero, List.set_cons_succ]
      refine consC (i := 2) rfl (by kernel_rfl) (fun K hK => ?_)
      go_simp
      have hr1 : (w6.drew.alloc (.cells #[.slice B text.length d] 29)).rangeAt w3.heap.size 0 cs := (HZ6.out.frm' (HFD.out.alloc _)).range HA.out
      refine hK.out _ _ hr1 (fun hHeld => ?_)
      clear hK K
      try simp only [Act.put, List.setIfInBounds_toArray, List.set_cons_zero, List.set_cons_succ]
      refine consC (i := 3) rfl (by kernel_rfl) (fun K hK => ?_)
      go_simp
      go_at_call 41
      have hS := dersum1 w6.drew Ak B kk text (key.length + k) text.length ck d HKL.out rfl (HT.out.frm' (HF6.out.trans' HFD.out)) (HO6.out.frm' HFD.out) hck (by omega) (HY.out.frm' (HF6.out.trans' HFD.out)) hd (by omega)
      rw [HMK.out] at hS
      refine hS.mono ?_
      rintro _ w7 ⟨rfl, hf⟩
      rw [HA.out]
      have HF7 := Lib.hid (HFD.out.trans' hf)
      have hr7 := (HZ6.out.frm' HF7.out).range HA.out
      clear hf hS
      try dsimp only
      refine hK.out _ _ hr7 (fun hHeld => ?_)
      clear hK K
      try simp only [Act.put, List.setIfInBounds_toArray, List.set_cons_zero, List.set_cons_succ]
      refine takeC (i := 5) (.bool true) rfl (by kernel_rfl) (by kernel_rfl) (by kernel_rfl) (fun _ _ _ h => h) (Or.inl ⟨by rfl, fun w hw => by go_simp⟩) hr7 ?_
      try simp only [Act.put, List.setIfInBounds_toArray, List.set_cons_zero, List.set_cons_succ]
      refine takeC (i := 6) (.bool true) rfl (by kernel_rfl) (by kernel_rfl) (by kernel_rfl) (fun _ _ _ h => h) (Or.inl ⟨by rfl, fun w hw => by go_simp⟩) hr7 ?_
      try simp only [Act.put, List.setIfInBounds_toArray, List.set_cons_zero, List.set_cons_succ]
      refine takeC (i := 7) (.pointer (some ⟨mm, 0, none⟩)) rfl (by kernel_rfl) (by kernel_rfl) (by kernel_rfl) (fun _ _ _ h => h) (Or.inl ⟨by rfl, fun w hw => by go_simp⟩) hr7 ?_
      try simp only [Act.put, List.setIfInBounds_toArray, List.set_cons_zero, List.set_cons_succ]
      refine takeC (i := 9) (.agg cs.toArray) rfl (by kernel_rfl) (by kernel_rfl) (by kernel_rfl) (fun _ _ _ h => h) (yieldsIf_load_mid (by rfl) _ _ rfl w3.heap.size 0 rfl cs _ (fun w hw => hw) HU.out rfl HSZ.out) hr7 ?_
      try simp only [Act.put, List.setIfInBounds_toArray, List.set_cons_zero, List.set_cons_succ]
      refine consC (i := 8) rfl (by kernel_rfl) (fun K hK => ?_)
      go_simp
      go_at_call 37
      have hS := macsum_any w7 mm b kk text (HT.out.frm' (HF6.out.trans' HF7.out)) (HM6.out.frm' HF7.out) (by omega)
      rw [HMK.out] at hS
      refine hS.mono ?_
      rintro _ w8 ⟨rfl, hf⟩
      rw [HA.out]
      have HF8 := Lib.hid (HF7.out.trans' hf)
      have hr8 := (HZ6.out.frm' HF8.out).range HA.out
      clear hf hS
      try dsimp only
      refine hK.out _ _ hr8 (fun hHeld => ?_)
      clear hK K
      try simp only [Act.put, List.setIfInBounds_toArray, List.set_cons_zero, List.set_cons_succ]
      refine takeC (i := 10) (.bool true) rfl (by kernel_rfl) (by kernel_rfl) (by kernel_rfl) (fun _ _ _ h => h) (Or.inl ⟨by rfl, fun w hw => by go_simp⟩) hr8 ?_
      try simp only [Act.put, List.setIfInBounds_toArray, List.set_cons_zero, List.set_cons_succ]
      refine takeC (i := 11) (.bool true) rfl (by kernel_rfl) (by kernel_rfl) (by kernel_rfl) (fun _ _ _ h => h) (Or.inl ⟨by rfl, fun w hw => by go_simp⟩) hr8 ?_
      try simp only [Act.put, List.setIfInBounds_toArray, List.set_cons_zero, List.set_cons_succ]
      refine takeC (i := 12) (.bool true) rfl (by kernel_rfl) (by kernel_rfl) (by kernel_rfl) (fun _ _ _ h => h) (Or.inl ⟨by rfl, fun w hw => by go_simp⟩) hr8 ?_
      try simp only [Act.put, List.setIfInBounds_toArray, List.set_cons_zero, List.set_cons_succ]
      refine consC (i := 13) rfl (by kernel_rfl) (fun K hK => ?_)
      go_simp
      go_at_call 39
      refine (works04 w8 (HT.out.frm' (HF6.out.trans' HF8.out))).mono ?_
      rintro _ w9 ⟨rfl, hf⟩
      have HF9 := Lib.hid (HF8.out.trans' hf)
      have hr9 := (HZ6.out.frm' HF9.out).range HA.out
      clear hf
      try dsimp only
      refine hK.out _ _ hr9 (fun hHeld => ?_)
      clear hK K
      try simp only [Act.put, List.setIfInBounds_toArray, List.set_cons_zero, List.set_cons_succ]
      refine takeC (i := 14) (.bool true) rfl (by kernel_rfl) (by kernel_rfl) (by kernel_rfl) (fun _ _ _ h => h) (Or.inl ⟨by rfl, fun w hw => by go_simp⟩) hr9 ?_
      try simp only [Act.put, List.setIfInBounds_toArray, List.set_cons_zero, List.set_cons_succ]
      refine takeC (i := 15) (.bool true) rfl (by kernel_rfl) (by kernel_rfl) (by kernel_rfl) (fun _ _ _ h => h) (Or.inl ⟨by rfl, fun w hw => by go_simp⟩) hr9 ?_
      try simp only [Act.put, List.setIfInBounds_toArray, List.set_cons_zero, List.set_cons_succ]
      refine wpAnyH_done (by kernel_rfl) ?_ _
      go_wp2_with fail
      go_ret
      exact ⟨rfl, HF6.out.trans' HF9.out⟩
end Go.Proofs.YtkhakddecmgejaaDoor
