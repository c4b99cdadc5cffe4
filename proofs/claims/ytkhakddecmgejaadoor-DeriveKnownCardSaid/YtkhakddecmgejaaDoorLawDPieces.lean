/-
  trystlaw04.DerivePieces: the walk.
-/
import Derived.Test.YtkhakddecmgejaaDoorLawFrames
import Derived.Test.YtkhakddecmgejaaDoorPush
namespace Go.Proofs.YtkhakddecmgejaaDoor
open Go.RowKit
set_option linter.unusedVariables false
set_option linter.unusedSimpArgs false

/-- the blocks of two Macs lie apart -/
structure TwoMacs (w : World) (base mm b mm2 b2 : Nat) (key text text2 : List UInt8) : Prop where
  one : IsMac w mm b key text
  two : IsMac w mm2 b2 key text2
  n1 : b ≠ b2
  n2 : mm ≠ b2
  n3 : mm2 ≠ b
  g1 : base ≤ b
  g2 : base ≤ b2
theorem TwoMacs.frm' {w w' : World} {base mm b mm2 b2 : Nat} {key text text2 : List UInt8} (h : TwoMacs w base mm b mm2 b2 key text text2) (hf : Frm noB w w') : TwoMacs w' base mm b mm2 b2 key text text2 :=
  ⟨h.one.frm' hf, h.two.frm' hf, h.n1, h.n2, h.n3, h.g1, h.g2⟩
/-- the first Mac has taken more -/
theorem TwoMacs.w1 {w w' : World} {base mm b mm2 b2 : Nat} {key text text2 t' : List UInt8} (h : TwoMacs w base mm b mm2 b2 key text text2) (h1 : IsMac w' mm b key t') (hf : Frm (isB b) w w') : TwoMacs w' base mm b mm2 b2 key t' text2 :=
  ⟨h1, h.two.frm hf (fun h' => h.n3 h') (fun h' => h.n1 (Eq.symm h')), h.n1, h.n2, h.n3, h.g1, h.g2⟩
theorem TwoMacs.w2 {w w' : World} {base mm b mm2 b2 : Nat} {key text text2 t' : List UInt8} (h : TwoMacs w base mm b mm2 b2 key text text2) (h1 : IsMac w' mm2 b2 key t') (hf : Frm (isB b2) w w') : TwoMacs w' base mm b mm2 b2 key text t' :=
  ⟨h.one.frm hf (fun h' => h.n2 h') (fun h' => h.n1 h'), h1, h.n1, h.n2, h.n3, h.g1, h.g2⟩

/-- derive.Check of the code that is due, of one list, which has just been laid -/
theorem check1 (w : World) (A B : Option Addr) (key t mt : List UInt8) (n m cap c : Nat) (hmt : macT key t = mt) (hn0 : key.length = n) (hm0 : t.length = m) (hT : TabOk w) (hx : Rd w A (key.map bv)) (hc : n ≤ cap) (hl : n ≤ 1000000000) (hr : Rd w B (t.map bv)) (hcc : m ≤ c) (hf : m ≤ 1000000000) :
    Calls Tryd.prog 45 #[.slice A n cap, .agg (arr 32 (shaAt mt)), .slice (some ⟨w.heap.size, 0, none⟩) 1 1] (w.alloc (.cells #[.slice B m c] 29)) fun e w' => e = .returned (.bool true) ∧ Frm noB w w' := by
  subst hm0; subst hn0; subst hmt
  have hR : RdRows (w.alloc (.cells #[.slice B t.length c] 29)) (some ⟨w.heap.size, 0, none⟩) [t] (fun k => True ∨ k = w.heap.size) :=
    RdRows.laid [.slice B t.length c] [t] rfl fun i hi hi' => by
      match i, hi with
      | 0, _ => exact ⟨_, _, rfl, hcc, hr, fun _ _ _ => trivial⟩
  have ha : Frm noB w (w.alloc (.cells #[.slice B t.length c] 29)) := (Frm.refl _ _).alloc _
  have h := check_any _ A _ key [t] (sha (macT key t)) cap 1 (sha_length _) (hT.frm' ha) (hx.frm' ha) hc hl hR (by simpa using hf) (by simp)
  refine Calls.mono h fun e w' ⟨he, hf'⟩ => ⟨?_, ha.trans' hf'⟩
  rw [he]
  congr 2
  have e1 : hmac key [t].flatten = sha (macT key t) := by simp [hmac]
  exact decide_eq_true e1

set_option maxRecDepth 100000 in
set_option maxHeartbeats 4000000 in
theorem derivePieces_any (w : World) (A B C : Option Addr) (key text : List UInt8) (cuts : List Int) (c d e : Nat) (hcw : ∀ x ∈ cuts, -9223372036854775808 ≤ x ∧ x ≤ 9223372036854775807) (hT : TabOk w) (hx : Rd w A (key.map bv)) (hy : Rd w B (text.map bv)) (hz : Rd w C (cuts.map fun x => .int .i64 x)) (hc : key.length ≤ c) (hd : text.length ≤ d) (h1 : key.length ≤ 100000000) (h2 : text.length ≤ 100000000) (h3 : cuts.length ≤ 2000000) :
    Calls Tryd.prog 11 #[.slice A key.length c, .slice B text.length d, .slice C cuts.length e] w fun r w' => r = .returned (.bool true) ∧ Frm noB w w' := by
  have HT := Lib.hid hT
  have HX := Lib.hid hx
  have HY := Lib.hid hy
  have HZ := Lib.hid hz
  have HCW := Lib.hid hcw
  clear hT hx hy hz hcw
  go_enter Tryd.func11, Tryd.ntmps11
  go_wp2_with fail
  refine (newmac_any w A key c HT.out HX.out hc (by omega)).mono ?_
  rintro _ w1 ⟨mm, b, rfl, hm, hb, hM1, hf1⟩
  have HM1 := Lib.hid hM1
  have HF1 := Lib.hid hf1
  clear hM1 hf1
  try dsimp only
  go_wp2_with fail
  refine (newmac_any w1 A key c (HT.out.frm' HF1.out) (HX.out.frm' HF1.out) hc (by omega)).mono ?_
  rintro _ w2 ⟨mm2, b2, rfl, hm2, hb2, hM2, hf2⟩
  have hs1 := HF1.out.size
  have h2m : TwoMacs w2 w.heap.size mm b mm2 b2 key [] [] :=
    ⟨HM1.out.frm' hf2, hM2, by have := HM1.out.lt; omega, by have := HM1.out.lt; omega, by have := HM1.out.lt; omega, hb, by omega⟩
  have H2M := Lib.hid h2m
  have HF2 := Lib.hid (HF1.out.trans' hf2)
  clear hM2 hf2 h2m HM1
  try dsimp only
  go_wp2_with fail
  go_loopw [9, 10, 11] (fun vp va i wr => ∃ (k a : Nat) (vs : List Value) (xss : List (List UInt8)) (t2 : List UInt8), k ≤ cuts.length ∧ i = .int .i64 k ∧ va = .int .i64 a ∧ a ≤ text.length ∧ vs.length = k ∧ OwnedRows wr w.heap.size vp vs xss ∧ xss.flatten = text.take a ∧ TwoMacs wr w.heap.size mm b mm2 b2 key (text.take a) t2 ∧ t2.length ≤ 3 * k ∧ (∀ q, oB vp q → q ≠ b ∧ q ≠ b2) ∧ (∀ j (hj : j < vs.length) q, oB vs[j] q → q ≠ b ∧ q ≠ b2) ∧ Frm noB w wr) (fun _ _ i _ => cuts.length - (intOf i).toNat)
  case atStart => exact ⟨0, 0, [], [], [], Nat.zero_le _, rfl, rfl, Nat.zero_le _, rfl, OwnedRows.nil_ _ _, by simp, by simpa using H2M.out, by simp, fun q h => by simp [oB, Value.ownBlock] at h, fun j h => absurd h (by simp), HF2.out⟩
  case round =>
    clear H2M HF2
    obtain ⟨k, a, vs, xss, t2, hk, rfl, rfl, ha, hvl, ho, hxf, hM, ht2, hq1, hq2, hF⟩ := hrel
    obtain ⟨Ap, cp, rfl, _⟩ := own_slice ho.row
    have HO := Lib.hid ho
    have HXF := Lib.hid hxf
    have HM := Lib.hid hM
    have HF := Lib.hid hF
    have HQ1 := Lib.hid hq1
    have HQ2 := Lib.hid hq2
    have HVL := Lib.hid hvl
    have hsz := hF.size
    clear ho hxf hM hF hq1 hq2 hvl
    by_cases hlt : k < cuts.length
    · obtain ⟨bc, oc, e0, hcc⟩ := (HZ.out.frm' HF.out) k (by simpa using hlt)
      have hcr := HCW.out _ (List.getElem_mem hlt)
      simp only [List.getElem_map] at hcc
      generalize cuts[k] = x at *
      subst e0
      obtain ⟨Q, hQ, hQl⟩ : ∃ Q : Nat, wrap64 ((IntKind.u64.wrap x).tmod ((text.length : Int) - a + 1)) = (Q : Int) ∧ a + Q ≤ text.length := by
        have h0 : 0 ≤ (IntKind.u64.wrap x).tmod ((text.length : Int) - a + 1) := Int.tmod_nonneg _ (u64_ge x)
        have h1 : (IntKind.u64.wrap x).tmod ((text.length : Int) - a + 1) < (text.length : Int) - a + 1 := Int.tmod_lt_of_pos _ (by omega)
        refine ⟨((IntKind.u64.wrap x).tmod ((text.length : Int) - a + 1)).toNat, ?_, by omega⟩
        rw [Int.toNat_of_nonneg h0]
        unfold wrap64
        omega
      go_upto_region 11 with fail
      clear hQ hcc hcr
      have hpl : ((text.drop a).take Q).length = Q := by simp; omega
      obtain ⟨pc, hpc⟩ : ∃ pc, pc = (text.drop a).take Q := ⟨_, rfl⟩
      rw [← hpc] at hpl
      have HPC := Lib.hid hpc
      have HPL := Lib.hid hpl
      have HTA : Hid (text.take (a + Q) = text.take a ++ pc) := Lib.hid (by rw [hpc, List.take_add])
      have HD0 : Hid (∀ w', Frm noB w w' → Rd w' (Option.map (fun x => x.add a) B) (pc.map bv)) := Lib.hid fun w' hf => by rw [hpc]; exact ((HY.out.frm' hf).dropO a).takeB Q
      have hcase : a < d ∨ (d ≤ a ∧ Q ≤ 0 ∧ a = d) := by omega
      have hbl := HM.out.one.lt
      have hbl2 := HM.out.two.lt
      have hgm := HM.out.g1
      have hgm2 := HM.out.g2
      clear hpc hpl
      rcases hcase with hcap | ⟨hcap, htl, had⟩
      all_goals
        try subst had
        go_wp2_with fail
        refine (twin_n wr _ pc Q _ HPL.out (by first | exact HD0.out _ HF.out | (have e : pc = [] := List.eq_nil_of_length_eq_zero (by rw [HPL.out]; omega); rw [e]; exact Rd.nil _ _)) (by omega)).mono ?_
        rintro _ w3 ⟨A3, c3, rfl, ho3, hf3⟩
        have HO3 := Lib.hid ho3
        have HF3 := Lib.hid hf3
        have h3s := hf3.size
        have hvl : vs.length ≤ 2000000 := by have := HVL.out; omega
        clear ho3 hf3
        try dsimp only
        go_wp2_with (at_builtin; refine app1N info23 rfl w.heap.size (own_frm' HO.out.row HF3.out) (.tmp 45) (.tmp 51) rfl rfl rfl rfl rfl (vs.length + 1) rfl _ rfl (by omega) (by omega) (by omega) ?_; intro A4 c4 w4 ho4 hc4 hf4 hv4; have HO4 := Lib.hid ho4; have HF4 := Lib.hid hf4; have HV4 := Lib.hid hv4; clear ho4 hf4 hv4 hc4)
        have hgb : ∀ q, oB (.slice Ap vs.length cp) q → w.heap.size ≤ q := fun q hq => (own_lt HO.out.row q hq).1
        have HF04 : Hid (Frm noB w w4) := Lib.hid ((HF.out.trans' HF3.out).trans HF4.out fun q hq h => by have := hgb q h; omega)
        have HP4 : Hid (OwnedRows w4 w.heap.size (.slice A4 (vs.length + 1) c4) (vs ++ [.slice A3 Q c3]) (xss ++ [pc])) := Lib.hid (HO.out.push hsz HF3.out (by rw [HPL.out]; exact HO3.out) HO4.out HF4.out)
        have HM4 : Hid (TwoMacs w4 w.heap.size mm b mm2 b2 key (text.take a) t2) := Lib.hid (by
          have h := HM.out.frm' HF3.out
          refine ⟨h.one.frm HF4.out ?_ ?_, h.two.frm HF4.out ?_ ?_, h.n1, h.n2, h.n3, h.g1, h.g2⟩
          · exact h.one.blk.own_ne (own_frm' HO.out.row HF3.out) (by decide)
          · exact fun hq => (HQ1.out b hq).1 rfl
          · exact h.two.blk.own_ne (own_frm' HO.out.row HF3.out) (by decide)
          · exact fun hq => (HQ1.out b2 hq).2 rfl)
        clear HO HF HM HO4 HF4
        refine (twin_n w4 _ pc Q _ HPL.out (by first | exact HD0.out _ HF04.out | (have e : pc = [] := List.eq_nil_of_length_eq_zero (by rw [HPL.out]; omega); rw [e]; exact Rd.nil _ _)) (by omega)).mono ?_
        rintro _ w5 ⟨A5, c5, rfl, ho5, hf5⟩
        have hM5 := HM4.out.frm' hf5
        have hc5 := own_slice ho5
        have hc5' : Q ≤ c5 := by obtain ⟨_, _, e, h⟩ := hc5; injection e with _ _ e3; omega
        have h5b : ∀ q, aB A5 q → w4.heap.size ≤ q := fun q ⟨a, ha, hq⟩ => (own_lt ho5 q (by subst ha; subst hq; rfl)).1
        have h4s := HM4.out.one.lt
        have h4s2 := HM4.out.two.lt
        have HM5 := Lib.hid hM5
        have HR5 := Lib.hid (Rd.of_own ho5)
        have HF5 := Lib.hid (HF04.out.trans' hf5)
        have HP5 := Lib.hid (HP4.out.frm' hf5)
        have H5B := Lib.hid h5b
        clear ho5 hf5 hM5 hc5 h5b
        try dsimp only
        go_wp2_with fail
        refine (macwrite_n w5 mm b key (text.take a) A5 pc Q c5 HPL.out (HT.out.frm' HF5.out) HM5.out.one HR5.out (fun _ q hq => by have := H5B.out q hq; omega) hc5' (by simp; omega) (by omega)).mono ?_
        rintro _ w6 ⟨rfl, hM6, hf6⟩
        rw [← HTA.out] at hM6
        have HM6 := Lib.hid (HM5.out.w1 hM6 hf6)
        have HF6 : Hid (Frm noB w w6) := Lib.hid (HF5.out.trans hf6 fun q hq h => by have h : q = b := h; omega)
        have HQ1' : Hid (∀ q, oB (.slice A4 (vs.length + 1) c4) q → q ≠ b ∧ q ≠ b2) := Lib.hid fun q hq => by
          rcases HV4.out q hq with h | h
          · exact HQ1.out q h
          · omega
        have HQ2' : Hid (∀ j (hj : j < (vs ++ [Value.slice A3 Q c3]).length) q, oB (vs ++ [Value.slice A3 Q c3])[j] q → q ≠ b ∧ q ≠ b2) := Lib.hid fun j hj q hq => by
          by_cases e : j < vs.length
          · rw [List.getElem_append_left e] at hq
            exact HQ2.out j e q hq
          · have e1 : j = vs.length := by simp at hj; omega
            subst e1
            have e3 : (vs ++ [Value.slice A3 Q c3])[vs.length] = .slice A3 Q c3 := by simp
            rw [e3] at hq
            have := own_lt HO3.out q hq
            omega
        have HP6 := Lib.hid (HP5.out.frm hf6 (fun q hq h => (HQ1'.out q hq).1 h) (fun j hj q hq h => (HQ2'.out j hj q hq).1 h))
        have hrl := rd_laid w6 [1, 2, 3] (0, 0)
        have hfl : Frm noB w6 (w6.alloc (.cells (([1, 2, 3] : List UInt8).map bv).toArray 5)) := (Frm.refl _ _).alloc _
        have h6s := HM6.out.two.lt
        clear hM6 hf6 HM5 HP5 HR5 HF5 H5B hc5'
        try dsimp only
        go_wp2_with fail
        refine (macwrite_any (w6.alloc (.cells (([1, 2, 3] : List UInt8).map bv).toArray 5)) mm2 b2 key t2 (some ⟨w6.heap.size, 0, none⟩) [1, 2, 3] 3 (HT.out.frm' (HF6.out.trans' hfl)) (HM6.out.two.frm' hfl) hrl (fun _ q ⟨a, ha, hq⟩ => by cases ha; have hq : w6.heap.size = q := hq; omega) (by simp) (by omega) (by simp)).mono ?_
        rintro _ w7 ⟨rfl, hM7, hf7⟩
        have HM7 := Lib.hid ((HM6.out.frm' hfl).w2 hM7 hf7)
        have HF7 : Hid (Frm noB w w7) := Lib.hid ((HF6.out.trans' hfl).trans hf7 fun q hq h => by have h : q = b2 := h; omega)
        have HP7 := Lib.hid ((HP6.out.frm' hfl).frm hf7 (fun q hq h => (HQ1'.out q hq).2 h) (fun j hj q hq h => (HQ2'.out j hj q hq).2 h))
        clear hM7 hf7 hrl hfl HP6 HM6 HF6
        try dsimp only
        go_wp2_with fail
        first
          | exact ⟨⟨k + 1, a + Q, _, _, _, by omega, by go_num, by go_num, hQl, by simp [HVL.out], HP7.out, by (rw [List.flatten_append, HXF.out, HTA.out]; simp), HM7.out, by simp; omega, HQ1'.out, HQ2'.out, HF7.out⟩, by simp [intOf]; omega⟩
          | fail
    · have e0 : k = cuts.length := by omega
      subst e0
      go_upto_region 15 with fail
      obtain ⟨mt, hmt⟩ : ∃ mt, mt = macT key text := ⟨_, rfl⟩
      have HMT := Lib.hid hmt.symm
      obtain ⟨pc, hpc⟩ : ∃ pc, pc = text.drop a := ⟨_, rfl⟩
      have hpl : pc.length = text.length - a := by rw [hpc]; simp
      have HPL := Lib.hid hpl
      have HTA : Hid (text.take a ++ pc = text) := Lib.hid (by rw [hpc, List.take_append_drop])
      have HD0 : Hid (∀ w', Frm noB w w' → Rd w' (Option.map (fun x => x.add a) B) (pc.map bv)) := Lib.hid fun w' hf => by rw [hpc]; exact (HY.out.frm' hf).dropO a
      have hcase : a < d ∨ (d ≤ a ∧ text.length ≤ a ∧ a = d) := by omega
      have hbl := HM.out.one.lt
      have hbl2 := HM.out.two.lt
      have hgm := HM.out.g1
      have hgm2 := HM.out.g2
      clear hpc hpl hmt
      rcases hcase with hcap | ⟨hcap, htl, had⟩
      · go_wp2_with fail
        refine (twin_n wr _ pc (text.length - a) _ HPL.out (by first | exact HD0.out _ HF.out | (have e : pc = [] := List.eq_nil_of_length_eq_zero (by rw [HPL.out]; omega); rw [e]; exact Rd.nil _ _)) (by omega)).mono ?_
        rintro _ w3 ⟨A3, c3, rfl, ho3, hf3⟩
        have HO3 := Lib.hid ho3
        have HF3 := Lib.hid hf3
        have h3s := hf3.size
        have hvl : vs.length ≤ 2000000 := by have := HVL.out; omega
        clear ho3 hf3
        try dsimp only
        go_wp2_with (at_builtin; refine app1N info23 rfl w.heap.size (own_frm' HO.out.row HF3.out) (.tmp 64) (.tmp 69) rfl rfl rfl rfl rfl (vs.length + 1) rfl _ rfl (by omega) (by omega) (by omega) ?_; intro A4 c4 w4 ho4 hc4 hf4 hv4; have HO4 := Lib.hid ho4; have HF4 := Lib.hid hf4; have HV4 := Lib.hid hv4; clear ho4 hf4 hv4 hc4)
        have hgb : ∀ q, oB (.slice Ap vs.length cp) q → w.heap.size ≤ q := fun q hq => (own_lt HO.out.row q hq).1
        have HF04 : Hid (Frm noB w w4) := Lib.hid ((HF.out.trans' HF3.out).trans HF4.out fun q hq h => by have := hgb q h; omega)
        have HP4 : Hid (OwnedRows w4 w.heap.size (.slice A4 (vs.length + 1) c4) (vs ++ [.slice A3 (text.length - a) c3]) (xss ++ [pc])) := Lib.hid (HO.out.push hsz HF3.out (by rw [HPL.out]; exact HO3.out) HO4.out HF4.out)
        have HM4 : Hid (TwoMacs w4 w.heap.size mm b mm2 b2 key (text.take a) t2) := Lib.hid (by
          have h := HM.out.frm' HF3.out
          refine ⟨h.one.frm HF4.out ?_ ?_, h.two.frm HF4.out ?_ ?_, h.n1, h.n2, h.n3, h.g1, h.g2⟩
          · exact h.one.blk.own_ne (own_frm' HO.out.row HF3.out) (by decide)
          · exact fun hq => (HQ1.out b hq).1 rfl
          · exact h.two.blk.own_ne (own_frm' HO.out.row HF3.out) (by decide)
          · exact fun hq => (HQ1.out b2 hq).2 rfl)
        clear HO HF HM HO4 HF4
        refine (twin_n w4 _ pc (text.length - a) _ HPL.out (by first | exact HD0.out _ HF04.out | (have e : pc = [] := List.eq_nil_of_length_eq_zero (by rw [HPL.out]; omega); rw [e]; exact Rd.nil _ _)) (by omega)).mono ?_
        rintro _ w5 ⟨A5, c5, rfl, ho5, hf5⟩
        have hM5 := HM4.out.frm' hf5
        have hc5 := own_slice ho5
        have hc5' : text.length - a ≤ c5 := by obtain ⟨_, _, e, h⟩ := hc5; injection e with _ _ e3; omega
        have h5b : ∀ q, aB A5 q → w4.heap.size ≤ q := fun q ⟨a, ha, hq⟩ => (own_lt ho5 q (by subst ha; subst hq; rfl)).1
        have h4s := HM4.out.one.lt
        have h4s2 := HM4.out.two.lt
        have HM5 := Lib.hid hM5
        have HR5 := Lib.hid (Rd.of_own ho5)
        have HF5 := Lib.hid (HF04.out.trans' hf5)
        have HP5 := Lib.hid (HP4.out.frm' hf5)
        have H5B := Lib.hid h5b
        clear ho5 hf5 hM5 hc5 h5b
        try dsimp only
        go_wp2_with fail
        refine (macwrite_n w5 mm b key (text.take a) A5 pc (text.length - a) c5 HPL.out (HT.out.frm' HF5.out) HM5.out.one HR5.out (fun _ q hq => by have := H5B.out q hq; omega) hc5' (by simp; omega) (by omega)).mono ?_
        rintro _ w6 ⟨rfl, hM6, hf6⟩
        rw [HTA.out] at hM6
        have HM6 := Lib.hid (HM5.out.w1 hM6 hf6)
        have HF6 : Hid (Frm noB w w6) := Lib.hid (HF5.out.trans hf6 fun q hq h => by have h : q = b := h; omega)
        have HQ1' : Hid (∀ q, oB (.slice A4 (vs.length + 1) c4) q → q ≠ b ∧ q ≠ b2) := Lib.hid fun q hq => by
          rcases HV4.out q hq with h | h
          · exact HQ1.out q h
          · omega
        have HQ2' : Hid (∀ j (hj : j < (vs ++ [Value.slice A3 (text.length - a) c3]).length) q, oB (vs ++ [Value.slice A3 (text.length - a) c3])[j] q → q ≠ b ∧ q ≠ b2) := Lib.hid fun j hj q hq => by
          by_cases e : j < vs.length
          · rw [List.getElem_append_left e] at hq
            exact HQ2.out j e q hq
          · have e1 : j = vs.length := by simp at hj; omega
            subst e1
            have e3 : (vs ++ [Value.slice A3 (text.length - a) c3])[vs.length] = .slice A3 (text.length - a) c3 := by simp
            rw [e3] at hq
            have := own_lt HO3.out q hq
            omega
        have HP6 := Lib.hid (HP5.out.frm hf6 (fun q hq h => (HQ1'.out q hq).1 h) (fun j hj q hq h => (HQ2'.out j hj q hq).1 h))
        have hS := dersum1 w6 A B key text key.length text.length c _ rfl rfl (HT.out.frm' HF6.out) (HX.out.frm' HF6.out) hc (by omega) (HY.out.frm' HF6.out) hd (by omega)
        rw [HMT.out] at hS
        have HS := Lib.hid hS
        clear hM6 hf6 HM5 HP5 HR5 HF5 H5B hc5' hS HQ1' HQ2' HQ1 HQ2 HP4 HM4 HO3 HF3 HV4
        try dsimp only
        go_wp2_with fail
        refine HS.out.mono ?_
        rintro _ w7 ⟨rfl, hf⟩
        obtain ⟨wz, hrun, hz, hfz⟩ := run_storeRow (P := Tryd.prog) (w := w7.alloc (.cells #[.int .u8 0, .int .u8 0, .int .u8 0, .int .u8 0, .int .u8 0, .int .u8 0, .int .u8 0, .int .u8 0, .int .u8 0, .int .u8 0, .int .u8 0, .int .u8 0, .int .u8 0, .int .u8 0, .int .u8 0, .int .u8 0, .int .u8 0, .int .u8 0, .int .u8 0, .int .u8 0, .int .u8 0, .int .u8 0, .int .u8 0, .int .u8 0, .int .u8 0, .int .u8 0, .int .u8 0, .int .u8 0, .int .u8 0, .int .u8 0, .int .u8 0, .int .u8 0] 26)) (Blk.new _ _ _) (cs := arr 32 (shaAt mt)) (by rw [arr_size]; rfl) (one_arr fun i _ => rfl)
        have HZZ := Lib.hid hz
        have HF6Z : Hid (Frm noB w6 wz) := Lib.hid (hf.trans' (((Frm.refl noB w7).alloc (.cells #[.int .u8 0, .int .u8 0, .int .u8 0, .int .u8 0, .int .u8 0, .int .u8 0, .int .u8 0, .int .u8 0, .int .u8 0, .int .u8 0, .int .u8 0, .int .u8 0, .int .u8 0, .int .u8 0, .int .u8 0, .int .u8 0, .int .u8 0, .int .u8 0, .int .u8 0, .int .u8 0, .int .u8 0, .int .u8 0, .int .u8 0, .int .u8 0, .int .u8 0, .int .u8 0, .int .u8 0, .int .u8 0, .int .u8 0, .int .u8 0, .int .u8 0, .int .u8 0] 26)).trans hfz fun k hk h => by have h : k = w7.heap.size := h; omega))
        have HRUN := Lib.hid hrun
        clear hf hz hfz hrun HS
        try dsimp only
        go_wp2_with (refine wpList_storeRow rfl _ _ _ rfl rfl w7.heap.size rfl _ rfl (size_arr _ _) HRUN.out ?_)
        have HFZ := Lib.hid (HF6.out.trans' HF6Z.out)
        have HMZ := Lib.hid (HM6.out.frm' HF6Z.out)
        have HPZ := Lib.hid (HP6.out.frm' HF6Z.out)
        clear HF6 HM6 HP6 HF6Z HF04
        obtain ⟨cs, hcs⟩ : ∃ cs : List Value, cs = (List.range 32).map (shaAt mt) := ⟨_, rfl⟩
        have harr : arr 32 (shaAt mt) = cs.toArray := by rw [hcs]; rfl
        have HA := Lib.hid harr
        have hE : ∀ w : World, (Op.equalIn 10000 26 (.agg cs.toArray) (.agg cs.toArray)).run Tryd.prog w = .ok true w := fun w => by rw [← harr]; exact eq_sha' w mt
        have HU : Hid (Tryd.prog.underlying 26 = some (.array 32 5)) := Lib.hid Tryd.underlying26
        have HSZ : Hid ((Tryd.prog.info? 26).map (·.size) = some cs.length) := Lib.hid (by rw [hcs, List.length_map, List.length_range]; rfl)
        have hfd : Frm noB wz wz.drew := (Frm.refl noB wz).drew
        have hr0 := (HZZ.out.frm' hfd).range harr
        have HFD := Lib.hid (HFZ.out.trans' hfd)
        have HMD := Lib.hid (HMZ.out.frm' hfd)
        have HPD := Lib.hid (HPZ.out.frm' hfd)
        have HZD := Lib.hid (HZZ.out.frm' hfd)
        clear hcs harr hfd HZZ HFZ HMZ HPZ
        refine wp_region_held_drew (S := fun w' => w'.rangeAt w7.heap.size 0 cs) (by kernel_rfl) hr0 (fun hHeld => ?_)
        generalize wz.drew = wd at *
        refine takeC (i := 0) (.pointer (some ⟨mm, 0, none⟩)) rfl (by kernel_rfl) (by kernel_rfl) (by kernel_rfl) (fun _ _ _ h => h) (Or.inl ⟨by rfl, fun w hw => by go_simp⟩) hr0 ?_
        try simp only [Act.put, List.setIfInBounds_toArray, List.set_cons_zero, List.set_cons_succ]
        refine takeC (i := 2) (.agg cs.toArray) rfl (by kernel_rfl) (by kernel_rfl) (by kernel_rfl) (fun _ _ _ h => h) (yieldsIf_load_mid (by rfl) _ _ rfl w7.heap.size 0 rfl cs _ (fun w hw => hw) HU.out rfl HSZ.out) hr0 ?_
        try simp only [Act.put, List.setIfInBounds_toArray, List.set_cons_zero, List.set_cons_succ]
        refine consC (i := 1) rfl (by kernel_rfl) (fun K hK => ?_)
        go_simp
        go_at_call 37
        have hS := macsum_any wd mm b key text (HT.out.frm' HFD.out) HMD.out.one (by omega)
        rw [HMT.out] at hS
        refine hS.mono ?_
        rintro _ w8 ⟨rfl, hf⟩
        rw [HA.out]
        have HF8 := Lib.hid hf
        have hr8 := (HZD.out.frm' HF8.out).range HA.out
        clear hf hS
        try dsimp only
        refine hK.out _ _ hr8 (fun hHeld => ?_)
        clear hK K
        try simp only [Act.put, List.setIfInBounds_toArray, List.set_cons_zero, List.set_cons_succ]
        refine takeC (i := 3) (.bool true) rfl (by kernel_rfl) (by kernel_rfl) (by kernel_rfl) (fun _ _ _ h => h) (Or.inl ⟨by rfl, fun w hw => by go_simp⟩) hr8 ?_
        try simp only [Act.put, List.setIfInBounds_toArray, List.set_cons_zero, List.set_cons_succ]
        refine takeC (i := 4) (.bool true) rfl (by kernel_rfl) (by kernel_rfl) (by kernel_rfl) (fun _ _ _ h => h) (Or.inl ⟨by rfl, fun w hw => by go_simp⟩) hr8 ?_
        try simp only [Act.put, List.setIfInBounds_toArray, List.set_cons_zero, List.set_cons_succ]
        refine takeC (i := 5) (.slice A key.length c) rfl (by kernel_rfl) (by kernel_rfl) (by kernel_rfl) (fun _ _ _ h => h) (Or.inl ⟨by rfl, fun w hw => by go_simp⟩) hr8 ?_
        try simp only [Act.put, List.setIfInBounds_toArray, List.set_cons_zero, List.set_cons_succ]
        refine takeC (i := 6) (.slice A4 (vs.length + 1) c4) rfl (by kernel_rfl) (by kernel_rfl) (by kernel_rfl) (fun _ _ _ h => h) (Or.inl ⟨by rfl, fun w hw => by go_simp⟩) hr8 ?_
        try simp only [Act.put, List.setIfInBounds_toArray, List.set_cons_zero, List.set_cons_succ]
        refine takeC (i := 8) (.agg cs.toArray) rfl (by kernel_rfl) (by kernel_rfl) (by kernel_rfl) (fun _ _ _ h => h) (yieldsIf_load_mid (by rfl) _ _ rfl w7.heap.size 0 rfl cs _ (fun w hw => hw) HU.out rfl HSZ.out) hr8 ?_
        try simp only [Act.put, List.setIfInBounds_toArray, List.set_cons_zero, List.set_cons_succ]
        refine consC (i := 7) rfl (by kernel_rfl) (fun K hK => ?_)
        go_simp
        go_at_call 41
        have hfl : (xss ++ [pc]).flatten = text := by rw [List.flatten_append, HXF.out]; simpa using HTA.out
        have hnl : (xss ++ [pc]).length = vs.length + 1 := by have := HPD.out.len; simp at this ⊢; omega
        have hS := dersum_n w8 A A4 key (xss ++ [pc]) key.length (vs.length + 1) c c4 text rfl hnl hfl (HT.out.frm' (HFD.out.trans' HF8.out)) (HX.out.frm' (HFD.out.trans' HF8.out)) hc (by omega) (HPD.out.frm' HF8.out).rd.2 (by omega) (by omega)
        rw [HMT.out] at hS
        refine hS.mono ?_
        rintro _ w9 ⟨rfl, hf⟩
        rw [HA.out]
        have HF9 := Lib.hid (HF8.out.trans' hf)
        have hr9 := (HZD.out.frm' HF9.out).range HA.out
        clear hf hS hfl hnl
        try dsimp only
        refine hK.out _ _ hr9 (fun hHeld => ?_)
        clear hK K
        try simp only [Act.put, List.setIfInBounds_toArray, List.set_cons_zero, List.set_cons_succ]
        refine takeC (i := 9) (.bool true) rfl (by kernel_rfl) (by kernel_rfl) (by kernel_rfl) (fun _ _ _ h => h) (Or.inl ⟨by rfl, fun w hw => by go_simp⟩) hr9 ?_
        try simp only [Act.put, List.setIfInBounds_toArray, List.set_cons_zero, List.set_cons_succ]
        refine takeC (i := 10) (.bool true) rfl (by kernel_rfl) (by kernel_rfl) (by kernel_rfl) (fun _ _ _ h => h) (Or.inl ⟨by rfl, fun w hw => by go_simp⟩) hr9 ?_
        try simp only [Act.put, List.setIfInBounds_toArray, List.set_cons_zero, List.set_cons_succ]
        refine takeC (i := 11) (.bool true) rfl (by kernel_rfl) (by kernel_rfl) (by kernel_rfl) (fun _ _ _ h => h) (Or.inl ⟨by rfl, fun w hw => by go_simp⟩) hr9 ?_
        try simp only [Act.put, List.setIfInBounds_toArray, List.set_cons_zero, List.set_cons_succ]
        refine takeC (i := 12) (.slice A key.length c) rfl (by kernel_rfl) (by kernel_rfl) (by kernel_rfl) (fun _ _ _ h => h) (Or.inl ⟨by rfl, fun w hw => by go_simp⟩) hr9 ?_
        try simp only [Act.put, List.setIfInBounds_toArray, List.set_cons_zero, List.set_cons_succ]
        refine takeC (i := 13) (.agg cs.toArray) rfl (by kernel_rfl) (by kernel_rfl) (by kernel_rfl) (fun _ _ _ h => h) (yieldsIf_load_mid (by rfl) _ _ rfl w7.heap.size 0 rfl cs _ (fun w hw => hw) HU.out rfl HSZ.out) hr9 ?_
        try simp only [Act.put, List.setIfInBounds_toArray, List.set_cons_zero, List.set_cons_succ]
        refine takeC (i := 14) (.slice B text.length d) rfl (by kernel_rfl) (by kernel_rfl) (by kernel_rfl) (fun _ _ _ h => h) (Or.inl ⟨by rfl, fun w hw => by go_simp⟩) hr9 ?_
        try simp only [Act.put, List.setIfInBounds_toArray, List.set_cons_zero, List.set_cons_succ]
        refine consC (i := 15) rfl (by kernel_rfl) (fun K hK => ?_)
        go_simp
        have hr9' : (w9.alloc (.cells #[.slice B text.length d] 29)).rangeAt w7.heap.size 0 cs := (HZD.out.frm' (HF9.out.alloc _)).range HA.out
        refine hK.out _ _ hr9' (fun hHeld => ?_)
        clear hK K
        try simp only [Act.put, List.setIfInBounds_toArray, List.set_cons_zero, List.set_cons_succ]
        refine consC (i := 16) rfl (by kernel_rfl) (fun K hK => ?_)
        go_simp
        go_at_call 45
        have hS := check1 w9 A B key text mt key.length text.length c _ HMT.out rfl rfl (HT.out.frm' (HFD.out.trans' HF9.out)) (HX.out.frm' (HFD.out.trans' HF9.out)) hc (by omega) (HY.out.frm' (HFD.out.trans' HF9.out)) hd (by omega)
        rw [HA.out] at hS
        refine hS.mono ?_
        rintro _ w10 ⟨rfl, hf⟩
        have HF10 := Lib.hid (HF9.out.trans' hf)
        have hr10 := (HZD.out.frm' HF10.out).range HA.out
        clear hf hS
        try dsimp only
        refine hK.out _ _ hr10 (fun hHeld => ?_)
        clear hK K
        try simp only [Act.put, List.setIfInBounds_toArray, List.set_cons_zero, List.set_cons_succ]
        refine takeC (i := 17) (.bool true) rfl (by kernel_rfl) (by kernel_rfl) (by kernel_rfl) (fun _ _ _ h => h) (Or.inl ⟨by rfl, fun w hw => by go_simp⟩) hr10 ?_
        try simp only [Act.put, List.setIfInBounds_toArray, List.set_cons_zero, List.set_cons_succ]
        refine takeC (i := 18) (.bool true) rfl (by kernel_rfl) (by kernel_rfl) (by kernel_rfl) (fun _ _ _ h => h) (Or.inl ⟨by rfl, fun w hw => by go_simp⟩) hr10 ?_
        try simp only [Act.put, List.setIfInBounds_toArray, List.set_cons_zero, List.set_cons_succ]
        refine takeC (i := 19) (.slice A key.length c) rfl (by kernel_rfl) (by kernel_rfl) (by kernel_rfl) (fun _ _ _ h => h) (Or.inl ⟨by rfl, fun w hw => by go_simp⟩) hr10 ?_
        try simp only [Act.put, List.setIfInBounds_toArray, List.set_cons_zero, List.set_cons_succ]
        refine takeC (i := 20) (.slice B text.length d) rfl (by kernel_rfl) (by kernel_rfl) (by kernel_rfl) (fun _ _ _ h => h) (Or.inl ⟨by rfl, fun w hw => by go_simp⟩) hr10 ?_
        try simp only [Act.put, List.setIfInBounds_toArray, List.set_cons_zero, List.set_cons_succ]
        refine takeC (i := 22) (.agg cs.toArray) rfl (by kernel_rfl) (by kernel_rfl) (by kernel_rfl) (fun _ _ _ h => h) (yieldsIf_load_mid (by rfl) _ _ rfl w7.heap.size 0 rfl cs _ (fun w hw => hw) HU.out rfl HSZ.out) hr10 ?_
        try simp only [Act.put, List.setIfInBounds_toArray, List.set_cons_zero, List.set_cons_succ]
        refine consC (i := 21) rfl (by kernel_rfl) (fun K hK => ?_)
        go_simp
        go_at_call 46
        have hS := extract_any w10 A B key text c _ (HT.out.frm' (HFD.out.trans' HF10.out)) (HX.out.frm' (HFD.out.trans' HF10.out)) hc (by omega) (HY.out.frm' (HFD.out.trans' HF10.out)) hd (by omega)
        rw [HMT.out] at hS
        refine hS.mono ?_
        rintro _ w11 ⟨rfl, hf⟩
        rw [HA.out]
        have HF11 := Lib.hid (HF10.out.trans' hf)
        have hr11 := (HZD.out.frm' HF11.out).range HA.out
        clear hf hS
        try dsimp only
        refine hK.out _ _ hr11 (fun hHeld => ?_)
        clear hK K
        try simp only [Act.put, List.setIfInBounds_toArray, List.set_cons_zero, List.set_cons_succ]
        refine takeC (i := 23) (.bool true) rfl (by kernel_rfl) (by kernel_rfl) (by kernel_rfl) (fun _ _ _ h => h) (Or.inl ⟨by rfl, fun w hw => by go_simp⟩) hr11 ?_
        try simp only [Act.put, List.setIfInBounds_toArray, List.set_cons_zero, List.set_cons_succ]
        refine takeC (i := 24) (.bool true) rfl (by kernel_rfl) (by kernel_rfl) (by kernel_rfl) (fun _ _ _ h => h) (Or.inl ⟨by rfl, fun w hw => by go_simp⟩) hr11 ?_
        try simp only [Act.put, List.setIfInBounds_toArray, List.set_cons_zero, List.set_cons_succ]
        refine takeC (i := 25) (.bool true) rfl (by kernel_rfl) (by kernel_rfl) (by kernel_rfl) (fun _ _ _ h => h) (Or.inl ⟨by rfl, fun w hw => by go_simp⟩) hr11 ?_
        try simp only [Act.put, List.setIfInBounds_toArray, List.set_cons_zero, List.set_cons_succ]
        refine consC (i := 26) rfl (by kernel_rfl) (fun K hK => ?_)
        go_simp
        go_at_call 39
        refine (works04 w11 (HT.out.frm' (HFD.out.trans' HF11.out))).mono ?_
        rintro _ w12 ⟨rfl, hf⟩
        have HF12 := Lib.hid (HF11.out.trans' hf)
        have hr12 := (HZD.out.frm' HF12.out).range HA.out
        clear hf
        try dsimp only
        refine hK.out _ _ hr12 (fun hHeld => ?_)
        clear hK K
        try simp only [Act.put, List.setIfInBounds_toArray, List.set_cons_zero, List.set_cons_succ]
        refine takeC (i := 27) (.bool true) rfl (by kernel_rfl) (by kernel_rfl) (by kernel_rfl) (fun _ _ _ h => h) (Or.inl ⟨by rfl, fun w hw => by go_simp⟩) hr12 ?_
        try simp only [Act.put, List.setIfInBounds_toArray, List.set_cons_zero, List.set_cons_succ]
        refine takeC (i := 28) (.bool true) rfl (by kernel_rfl) (by kernel_rfl) (by kernel_rfl) (fun _ _ _ h => h) (Or.inl ⟨by rfl, fun w hw => by go_simp⟩) hr12 ?_
        try simp only [Act.put, List.setIfInBounds_toArray, List.set_cons_zero, List.set_cons_succ]
        refine wpAnyH_done (by kernel_rfl) ?_ _
        go_wp2_with fail
        go_ret
        exact ⟨rfl, HFD.out.trans' HF12.out⟩
      · subst had
        have HPL : Hid (pc.length = 0) := Lib.hid (by rw [HPL.out]; omega)
        go_wp2_with fail
        refine (twin_n wr _ pc 0 _ HPL.out (by first | exact HD0.out _ HF.out | (have e : pc = [] := List.eq_nil_of_length_eq_zero HPL.out; rw [e]; exact Rd.nil _ _)) (by omega)).mono ?_
        rintro _ w3 ⟨A3, c3, rfl, ho3, hf3⟩
        have HO3 := Lib.hid ho3
        have HF3 := Lib.hid hf3
        have h3s := hf3.size
        have hvl : vs.length ≤ 2000000 := by have := HVL.out; omega
        clear ho3 hf3
        try dsimp only
        go_wp2_with (at_builtin; refine app1N info23 rfl w.heap.size (own_frm' HO.out.row HF3.out) (.tmp 64) (.tmp 69) rfl rfl rfl rfl rfl (vs.length + 1) rfl _ rfl (by omega) (by omega) (by omega) ?_; intro A4 c4 w4 ho4 hc4 hf4 hv4; have HO4 := Lib.hid ho4; have HF4 := Lib.hid hf4; have HV4 := Lib.hid hv4; clear ho4 hf4 hv4 hc4)
        have hgb : ∀ q, oB (.slice Ap vs.length cp) q → w.heap.size ≤ q := fun q hq => (own_lt HO.out.row q hq).1
        have HF04 : Hid (Frm noB w w4) := Lib.hid ((HF.out.trans' HF3.out).trans HF4.out fun q hq h => by have := hgb q h; omega)
        have HP4 : Hid (OwnedRows w4 w.heap.size (.slice A4 (vs.length + 1) c4) (vs ++ [.slice A3 0 c3]) (xss ++ [pc])) := Lib.hid (HO.out.push hsz HF3.out (by rw [HPL.out]; exact HO3.out) HO4.out HF4.out)
        have HM4 : Hid (TwoMacs w4 w.heap.size mm b mm2 b2 key (text.take a) t2) := Lib.hid (by
          have h := HM.out.frm' HF3.out
          refine ⟨h.one.frm HF4.out ?_ ?_, h.two.frm HF4.out ?_ ?_, h.n1, h.n2, h.n3, h.g1, h.g2⟩
          · exact h.one.blk.own_ne (own_frm' HO.out.row HF3.out) (by decide)
          · exact fun hq => (HQ1.out b hq).1 rfl
          · exact h.two.blk.own_ne (own_frm' HO.out.row HF3.out) (by decide)
          · exact fun hq => (HQ1.out b2 hq).2 rfl)
        clear HO HF HM HO4 HF4
        refine (twin_n w4 _ pc 0 _ HPL.out (by first | exact HD0.out _ HF04.out | (have e : pc = [] := List.eq_nil_of_length_eq_zero HPL.out; rw [e]; exact Rd.nil _ _)) (by omega)).mono ?_
        rintro _ w5 ⟨A5, c5, rfl, ho5, hf5⟩
        have hM5 := HM4.out.frm' hf5
        have hc5 := own_slice ho5
        have hc5' : 0 ≤ c5 := by obtain ⟨_, _, e, h⟩ := hc5; injection e with _ _ e3; omega
        have h5b : ∀ q, aB A5 q → w4.heap.size ≤ q := fun q ⟨a, ha, hq⟩ => (own_lt ho5 q (by subst ha; subst hq; rfl)).1
        have h4s := HM4.out.one.lt
        have h4s2 := HM4.out.two.lt
        have HM5 := Lib.hid hM5
        have HR5 := Lib.hid (Rd.of_own ho5)
        have HF5 := Lib.hid (HF04.out.trans' hf5)
        have HP5 := Lib.hid (HP4.out.frm' hf5)
        have H5B := Lib.hid h5b
        clear ho5 hf5 hM5 hc5 h5b
        try dsimp only
        go_wp2_with fail
        refine (macwrite_n w5 mm b key (text.take a) A5 pc 0 c5 HPL.out (HT.out.frm' HF5.out) HM5.out.one HR5.out (fun _ q hq => by have := H5B.out q hq; omega) hc5' (by simp; omega) (by omega)).mono ?_
        rintro _ w6 ⟨rfl, hM6, hf6⟩
        rw [HTA.out] at hM6
        have HM6 := Lib.hid (HM5.out.w1 hM6 hf6)
        have HF6 : Hid (Frm noB w w6) := Lib.hid (HF5.out.trans hf6 fun q hq h => by have h : q = b := h; omega)
        have HQ1' : Hid (∀ q, oB (.slice A4 (vs.length + 1) c4) q → q ≠ b ∧ q ≠ b2) := Lib.hid fun q hq => by
          rcases HV4.out q hq with h | h
          · exact HQ1.out q h
          · omega
        have HQ2' : Hid (∀ j (hj : j < (vs ++ [Value.slice A3 0 c3]).length) q, oB (vs ++ [Value.slice A3 0 c3])[j] q → q ≠ b ∧ q ≠ b2) := Lib.hid fun j hj q hq => by
          by_cases e : j < vs.length
          · rw [List.getElem_append_left e] at hq
            exact HQ2.out j e q hq
          · have e1 : j = vs.length := by simp at hj; omega
            subst e1
            have e3 : (vs ++ [Value.slice A3 0 c3])[vs.length] = .slice A3 0 c3 := by simp
            rw [e3] at hq
            have := own_lt HO3.out q hq
            omega
        have HP6 := Lib.hid (HP5.out.frm hf6 (fun q hq h => (HQ1'.out q hq).1 h) (fun j hj q hq h => (HQ2'.out j hj q hq).1 h))
        have hS := dersum1 w6 A B key text key.length text.length c _ rfl rfl (HT.out.frm' HF6.out) (HX.out.frm' HF6.out) hc (by omega) (HY.out.frm' HF6.out) hd (by omega)
        rw [HMT.out] at hS
        have HS := Lib.hid hS
        clear hM6 hf6 HM5 HP5 HR5 HF5 H5B hc5' hS HQ1' HQ2' HQ1 HQ2 HP4 HM4 HO3 HF3 HV4
        try dsimp only
        go_wp2_with fail
        refine HS.out.mono ?_
        rintro _ w7 ⟨rfl, hf⟩
        obtain ⟨wz, hrun, hz, hfz⟩ := run_storeRow (P := Tryd.prog) (w := w7.alloc (.cells #[.int .u8 0, .int .u8 0, .int .u8 0, .int .u8 0, .int .u8 0, .int .u8 0, .int .u8 0, .int .u8 0, .int .u8 0, .int .u8 0, .int .u8 0, .int .u8 0, .int .u8 0, .int .u8 0, .int .u8 0, .int .u8 0, .int .u8 0, .int .u8 0, .int .u8 0, .int .u8 0, .int .u8 0, .int .u8 0, .int .u8 0, .int .u8 0, .int .u8 0, .int .u8 0, .int .u8 0, .int .u8 0, .int .u8 0, .int .u8 0, .int .u8 0, .int .u8 0] 26)) (Blk.new _ _ _) (cs := arr 32 (shaAt mt)) (by rw [arr_size]; rfl) (one_arr fun i _ => rfl)
        have HZZ := Lib.hid hz
        have HF6Z : Hid (Frm noB w6 wz) := Lib.hid (hf.trans' (((Frm.refl noB w7).alloc (.cells #[.int .u8 0, .int .u8 0, .int .u8 0, .int .u8 0, .int .u8 0, .int .u8 0, .int .u8 0, .int .u8 0, .int .u8 0, .int .u8 0, .int .u8 0, .int .u8 0, .int .u8 0, .int .u8 0, .int .u8 0, .int .u8 0, .int .u8 0, .int .u8 0, .int .u8 0, .int .u8 0, .int .u8 0, .int .u8 0, .int .u8 0, .int .u8 0, .int .u8 0, .int .u8 0, .int .u8 0, .int .u8 0, .int .u8 0, .int .u8 0, .int .u8 0, .int .u8 0] 26)).trans hfz fun k hk h => by have h : k = w7.heap.size := h; omega))
        have HRUN := Lib.hid hrun
        clear hf hz hfz hrun HS
        try dsimp only
        go_wp2_with (refine wpList_storeRow rfl _ _ _ rfl rfl w7.heap.size rfl _ rfl (size_arr _ _) HRUN.out ?_)
        have HFZ := Lib.hid (HF6.out.trans' HF6Z.out)
        have HMZ := Lib.hid (HM6.out.frm' HF6Z.out)
        have HPZ := Lib.hid (HP6.out.frm' HF6Z.out)
        clear HF6 HM6 HP6 HF6Z HF04
        obtain ⟨cs, hcs⟩ : ∃ cs : List Value, cs = (List.range 32).map (shaAt mt) := ⟨_, rfl⟩
        have harr : arr 32 (shaAt mt) = cs.toArray := by rw [hcs]; rfl
        have HA := Lib.hid harr
        have hE : ∀ w : World, (Op.equalIn 10000 26 (.agg cs.toArray) (.agg cs.toArray)).run Tryd.prog w = .ok true w := fun w => by rw [← harr]; exact eq_sha' w mt
        have HU : Hid (Tryd.prog.underlying 26 = some (.array 32 5)) := Lib.hid Tryd.underlying26
        have HSZ : Hid ((Tryd.prog.info? 26).map (·.size) = some cs.length) := Lib.hid (by rw [hcs, List.length_map, List.length_range]; rfl)
        have hfd : Frm noB wz wz.drew := (Frm.refl noB wz).drew
        have hr0 := (HZZ.out.frm' hfd).range harr
        have HFD := Lib.hid (HFZ.out.trans' hfd)
        have HMD := Lib.hid (HMZ.out.frm' hfd)
        have HPD := Lib.hid (HPZ.out.frm' hfd)
        have HZD := Lib.hid (HZZ.out.frm' hfd)
        clear hcs harr hfd HZZ HFZ HMZ HPZ
        refine wp_region_held_drew (S := fun w' => w'.rangeAt w7.heap.size 0 cs) (by kernel_rfl) hr0 (fun hHeld => ?_)
        generalize wz.drew = wd at *
        refine takeC (i := 0) (.pointer (some ⟨mm, 0, none⟩)) rfl (by kernel_rfl) (by kernel_rfl) (by kernel_rfl) (fun _ _ _ h => h) (Or.inl ⟨by rfl, fun w hw => by go_simp⟩) hr0 ?_
        try simp only [Act.put, List.setIfInBounds_toArray, List.set_cons_zero, List.set_cons_succ]
        refine takeC (i := 2) (.agg cs.toArray) rfl (by kernel_rfl) (by kernel_rfl) (by kernel_rfl) (fun _ _ _ h => h) (yieldsIf_load_mid (by rfl) _ _ rfl w7.heap.size 0 rfl cs _ (fun w hw => hw) HU.out rfl HSZ.out) hr0 ?_
        try simp only [Act.put, List.setIfInBounds_toArray, List.set_cons_zero, List.set_cons_succ]
        refine consC (i := 1) rfl (by kernel_rfl) (fun K hK => ?_)
        go_simp
        go_at_call 37
        have hS := macsum_any wd mm b key text (HT.out.frm' HFD.out) HMD.out.one (by omega)
        rw [HMT.out] at hS
        refine hS.mono ?_
        rintro _ w8 ⟨rfl, hf⟩
        rw [HA.out]
        have HF8 := Lib.hid hf
        have hr8 := (HZD.out.frm' HF8.out).range HA.out
        clear hf hS
        try dsimp only
        refine hK.out _ _ hr8 (fun hHeld => ?_)
        clear hK K
        try simp only [Act.put, List.setIfInBounds_toArray, List.set_cons_zero, List.set_cons_succ]
        refine takeC (i := 3) (.bool true) rfl (by kernel_rfl) (by kernel_rfl) (by kernel_rfl) (fun _ _ _ h => h) (Or.inl ⟨by rfl, fun w hw => by go_simp⟩) hr8 ?_
        try simp only [Act.put, List.setIfInBounds_toArray, List.set_cons_zero, List.set_cons_succ]
        refine takeC (i := 4) (.bool true) rfl (by kernel_rfl) (by kernel_rfl) (by kernel_rfl) (fun _ _ _ h => h) (Or.inl ⟨by rfl, fun w hw => by go_simp⟩) hr8 ?_
        try simp only [Act.put, List.setIfInBounds_toArray, List.set_cons_zero, List.set_cons_succ]
        refine takeC (i := 5) (.slice A key.length c) rfl (by kernel_rfl) (by kernel_rfl) (by kernel_rfl) (fun _ _ _ h => h) (Or.inl ⟨by rfl, fun w hw => by go_simp⟩) hr8 ?_
        try simp only [Act.put, List.setIfInBounds_toArray, List.set_cons_zero, List.set_cons_succ]
        refine takeC (i := 6) (.slice A4 (vs.length + 1) c4) rfl (by kernel_rfl) (by kernel_rfl) (by kernel_rfl) (fun _ _ _ h => h) (Or.inl ⟨by rfl, fun w hw => by go_simp⟩) hr8 ?_
        try simp only [Act.put, List.setIfInBounds_toArray, List.set_cons_zero, List.set_cons_succ]
        refine takeC (i := 8) (.agg cs.toArray) rfl (by kernel_rfl) (by kernel_rfl) (by kernel_rfl) (fun _ _ _ h => h) (yieldsIf_load_mid (by rfl) _ _ rfl w7.heap.size 0 rfl cs _ (fun w hw => hw) HU.out rfl HSZ.out) hr8 ?_
        try simp only [Act.put, List.setIfInBounds_toArray, List.set_cons_zero, List.set_cons_succ]
        refine consC (i := 7) rfl (by kernel_rfl) (fun K hK => ?_)
        go_simp
        go_at_call 41
        have hfl : (xss ++ [pc]).flatten = text := by rw [List.flatten_append, HXF.out]; simpa using HTA.out
        have hnl : (xss ++ [pc]).length = vs.length + 1 := by have := HPD.out.len; simp at this ⊢; omega
        have hS := dersum_n w8 A A4 key (xss ++ [pc]) key.length (vs.length + 1) c c4 text rfl hnl hfl (HT.out.frm' (HFD.out.trans' HF8.out)) (HX.out.frm' (HFD.out.trans' HF8.out)) hc (by omega) (HPD.out.frm' HF8.out).rd.2 (by omega) (by omega)
        rw [HMT.out] at hS
        refine hS.mono ?_
        rintro _ w9 ⟨rfl, hf⟩
        rw [HA.out]
        have HF9 := Lib.hid (HF8.out.trans' hf)
        have hr9 := (HZD.out.frm' HF9.out).range HA.out
        clear hf hS hfl hnl
        try dsimp only
        refine hK.out _ _ hr9 (fun hHeld => ?_)
        clear hK K
        try simp only [Act.put, List.setIfInBounds_toArray, List.set_cons_zero, List.set_cons_succ]
        refine takeC (i := 9) (.bool true) rfl (by kernel_rfl) (by kernel_rfl) (by kernel_rfl) (fun _ _ _ h => h) (Or.inl ⟨by rfl, fun w hw => by go_simp⟩) hr9 ?_
        try simp only [Act.put, List.setIfInBounds_toArray, List.set_cons_zero, List.set_cons_succ]
        refine takeC (i := 10) (.bool true) rfl (by kernel_rfl) (by kernel_rfl) (by kernel_rfl) (fun _ _ _ h => h) (Or.inl ⟨by rfl, fun w hw => by go_simp⟩) hr9 ?_
        try simp only [Act.put, List.setIfInBounds_toArray, List.set_cons_zero, List.set_cons_succ]
        refine takeC (i := 11) (.bool true) rfl (by kernel_rfl) (by kernel_rfl) (by kernel_rfl) (fun _ _ _ h => h) (Or.inl ⟨by rfl, fun w hw => by go_simp⟩) hr9 ?_
        try simp only [Act.put, List.setIfInBounds_toArray, List.set_cons_zero, List.set_cons_succ]
        refine takeC (i := 12) (.slice A key.length c) rfl (by kernel_rfl) (by kernel_rfl) (by kernel_rfl) (fun _ _ _ h => h) (Or.inl ⟨by rfl, fun w hw => by go_simp⟩) hr9 ?_
        try simp only [Act.put, List.setIfInBounds_toArray, List.set_cons_zero, List.set_cons_succ]
        refine takeC (i := 13) (.agg cs.toArray) rfl (by kernel_rfl) (by kernel_rfl) (by kernel_rfl) (fun _ _ _ h => h) (yieldsIf_load_mid (by rfl) _ _ rfl w7.heap.size 0 rfl cs _ (fun w hw => hw) HU.out rfl HSZ.out) hr9 ?_
        try simp only [Act.put, List.setIfInBounds_toArray, List.set_cons_zero, List.set_cons_succ]
        refine takeC (i := 14) (.slice B text.length a) rfl (by kernel_rfl) (by kernel_rfl) (by kernel_rfl) (fun _ _ _ h => h) (Or.inl ⟨by rfl, fun w hw => by go_simp⟩) hr9 ?_
        try simp only [Act.put, List.setIfInBounds_toArray, List.set_cons_zero, List.set_cons_succ]
        refine consC (i := 15) rfl (by kernel_rfl) (fun K hK => ?_)
        go_simp
        have hr9' : (w9.alloc (.cells #[.slice B text.length a] 29)).rangeAt w7.heap.size 0 cs := (HZD.out.frm' (HF9.out.alloc _)).range HA.out
        refine hK.out _ _ hr9' (fun hHeld => ?_)
        clear hK K
        try simp only [Act.put, List.setIfInBounds_toArray, List.set_cons_zero, List.set_cons_succ]
        refine consC (i := 16) rfl (by kernel_rfl) (fun K hK => ?_)
        go_simp
        go_at_call 45
        have hS := check1 w9 A B key text mt key.length text.length c _ HMT.out rfl rfl (HT.out.frm' (HFD.out.trans' HF9.out)) (HX.out.frm' (HFD.out.trans' HF9.out)) hc (by omega) (HY.out.frm' (HFD.out.trans' HF9.out)) hd (by omega)
        rw [HA.out] at hS
        refine hS.mono ?_
        rintro _ w10 ⟨rfl, hf⟩
        have HF10 := Lib.hid (HF9.out.trans' hf)
        have hr10 := (HZD.out.frm' HF10.out).range HA.out
        clear hf hS
        try dsimp only
        refine hK.out _ _ hr10 (fun hHeld => ?_)
        clear hK K
        try simp only [Act.put, List.setIfInBounds_toArray, List.set_cons_zero, List.set_cons_succ]
        refine takeC (i := 17) (.bool true) rfl (by kernel_rfl) (by kernel_rfl) (by kernel_rfl) (fun _ _ _ h => h) (Or.inl ⟨by rfl, fun w hw => by go_simp⟩) hr10 ?_
        try simp only [Act.put, List.setIfInBounds_toArray, List.set_cons_zero, List.set_cons_succ]
        refine takeC (i := 18) (.bool true) rfl (by kernel_rfl) (by kernel_rfl) (by kernel_rfl) (fun _ _ _ h => h) (Or.inl ⟨by rfl, fun w hw => by go_simp⟩) hr10 ?_
        try simp only [Act.put, List.setIfInBounds_toArray, List.set_cons_zero, List.set_cons_succ]
        refine takeC (i := 19) (.slice A key.length c) rfl (by kernel_rfl) (by kernel_rfl) (by kernel_rfl) (fun _ _ _ h => h) (Or.inl ⟨by rfl, fun w hw => by go_simp⟩) hr10 ?_
        try simp only [Act.put, List.setIfInBounds_toArray, List.set_cons_zero, List.set_cons_succ]
        refine takeC (i := 20) (.slice B text.length a) rfl (by kernel_rfl) (by kernel_rfl) (by kernel_rfl) (fun _ _ _ h => h) (Or.inl ⟨by rfl, fun w hw => by go_simp⟩) hr10 ?_
        try simp only [Act.put, List.setIfInBounds_toArray, List.set_cons_zero, List.set_cons_succ]
        refine takeC (i := 22) (.agg cs.toArray) rfl (by kernel_rfl) (by kernel_rfl) (by kernel_rfl) (fun _ _ _ h => h) (yieldsIf_load_mid (by rfl) _ _ rfl w7.heap.size 0 rfl cs _ (fun w hw => hw) HU.out rfl HSZ.out) hr10 ?_
        try simp only [Act.put, List.setIfInBounds_toArray, List.set_cons_zero, List.set_cons_succ]
        refine consC (i := 21) rfl (by kernel_rfl) (fun K hK => ?_)
        go_simp
        go_at_call 46
        have hS := extract_any w10 A B key text c _ (HT.out.frm' (HFD.out.trans' HF10.out)) (HX.out.frm' (HFD.out.trans' HF10.out)) hc (by omega) (HY.out.frm' (HFD.out.trans' HF10.out)) hd (by omega)
        rw [HMT.out] at hS
        refine hS.mono ?_
        rintro _ w11 ⟨rfl, hf⟩
        rw [HA.out]
        have HF11 := Lib.hid (HF10.out.trans' hf)
        have hr11 := (HZD.out.frm' HF11.out).range HA.out
        clear hf hS
        try dsimp only
        refine hK.out _ _ hr11 (fun hHeld => ?_)
        clear hK K
        try simp only [Act.put, List.setIfInBounds_toArray, List.set_cons_zero, List.set_cons_succ]
        refine takeC (i := 23) (.bool true) rfl (by kernel_rfl) (by kernel_rfl) (by kernel_rfl) (fun _ _ _ h => h) (Or.inl ⟨by rfl, fun w hw => by go_simp⟩) hr11 ?_
        try simp only [Act.put, List.setIfInBounds_toArray, List.set_cons_zero, List.set_cons_succ]
        refine takeC (i := 24) (.bool true) rfl (by kernel_rfl) (by kernel_rfl) (by kernel_rfl) (fun _ _ _ h => h) (Or.inl ⟨by rfl, fun w hw => by go_simp⟩) hr11 ?_
        try simp only [Act.put, List.setIfInBounds_toArray, List.set_cons_zero, List.set_cons_succ]
        refine takeC (i := 25) (.bool true) rfl (by kernel_rfl) (by kernel_rfl) (by kernel_rfl) (fun _ _ _ h => h) (Or.inl ⟨by rfl, fun w hw => by go_simp⟩) hr11 ?_
        try simp only [Act.put, List.setIfInBounds_toArray, List.set_cons_zero, List.set_cons_succ]
        refine consC (i := 26) rfl (by kernel_rfl) (fun K hK => ?_)
        go_simp
        go_at_call 39
        refine (works04 w11 (HT.out.frm' (HFD.out.trans' HF11.out))).mono ?_
        rintro _ w12 ⟨rfl, hf⟩
        have HF12 := Lib.hid (HF11.out.trans' hf)
        have hr12 := (HZD.out.frm' HF12.out).range HA.out
        clear hf
        try dsimp only
        refine hK.out _ _ hr12 (fun hHeld => ?_)
        clear hK K
        try simp only [Act.put, List.setIfInBounds_toArray, List.set_cons_zero, List.set_cons_succ]
        refine takeC (i := 27) (.bool true) rfl (by kernel_rfl) (by kernel_rfl) (by kernel_rfl) (fun _ _ _ h => h) (Or.inl ⟨by rfl, fun w hw => by go_simp⟩) hr12 ?_
        try simp only [Act.put, List.setIfInBounds_toArray, List.set_cons_zero, List.set_cons_succ]
        refine takeC (i := 28) (.bool true) rfl (by kernel_rfl) (by kernel_rfl) (by kernel_rfl) (fun _ _ _ h => h) (Or.inl ⟨by rfl, fun w hw => by go_simp⟩) hr12 ?_
        try simp only [Act.put, List.setIfInBounds_toArray, List.set_cons_zero, List.set_cons_succ]
        refine wpAnyH_done (by kernel_rfl) ?_ _
        go_wp2_with fail
        go_ret
        exact ⟨rfl, HFD.out.trans' HF12.out⟩
end Go.Proofs.YtkhakddecmgejaaDoor
