/-
  trystlaw04.DeriveWrites: the walk.
-/
import Derived.Test.YtkhakddecmgejaaDoorMacs3
namespace Go.Proofs.YtkhakddecmgejaaDoor
open Go.RowKit
set_option linter.unusedVariables false
set_option linter.unusedSimpArgs false

/-- three keys, by their number -/
theorem three_keys (w : World) (A B : Option Addr) (ka kb : List UInt8) (ca cb n : Nat) (hx : Rd w A (ka.map bv)) (hy : Rd w B (kb.map bv)) (hca : ka.length ≤ ca) (hcb : kb.length ≤ cb) (h1 : ka.length ≤ n) (h2 : kb.length ≤ n) :
    ∃ (KA : Nat → Option Addr) (KC : Nat → Nat) (ks : Nat → List UInt8), #[Value.slice A ka.length ca, .slice B kb.length cb, .slice A ka.length ca] = arr 3 (fun i => .slice (KA i) (ks i).length (KC i)) ∧ ∀ i, Rd w (KA i) ((ks i).map bv) ∧ (ks i).length ≤ KC i ∧ (ks i).length ≤ n := by
  refine ⟨fun i => if i = 1 then B else A, fun i => if i = 1 then cb else ca, fun i => if i = 1 then kb else ka, rfl, fun i => ?_⟩
  by_cases e : i = 1
  · simp only [e, if_true]; exact ⟨hy, hcb, h2⟩
  · simp only [e, if_false]; exact ⟨hx, hca, h1⟩

/-- a row of bytes of the call's own: a place of it -/
theorem own_place {w : World} {base n c j : Nat} {A : Option Addr} {xs : List Value} (h : w.ownsRow base 5 1 (.slice A n c) n xs) (hj : j < n) :
    ∃ g u, A = some ⟨g, 0, none⟩ ∧ w.cell? ⟨g, j, none⟩ = some u ∧ w.frozen? ⟨g, j, none⟩ = false ∧ oB (.slice A n c) g ∧ ∀ v : Value, (w.setCell ⟨g, j, none⟩ v).ownsRow base 5 1 (.slice A n c) n (xs.set j v) := by
  rcases h.2 with ⟨_, h0⟩ | ⟨g, cap, cur, e, _⟩
  · omega
  · have e' := e
    injection e with e1 e2 e3
    subst e1
    have hx : j < xs.length := by have := h.1; omega
    exact ⟨g, xs[j], rfl, by rw [h.cellAt j (by omega)]; exact List.getElem?_eq_getElem hx, h.frozenAt j, rfl, fun v => (h.stored j v).1⟩

set_option maxRecDepth 100000 in
set_option maxHeartbeats 4000000 in
theorem deriveWrites_any (w : World) (A B C : Option Addr) (ka kb : List UInt8) (l : List WOp) (ca cb c : Nat) (hT : TabOk w) (hx : Rd w A (ka.map bv)) (hy : Rd w B (kb.map bv)) (hz : RdW w C l) (hca : ka.length ≤ ca) (hcb : kb.length ≤ cb) (h1 : ka.length ≤ 2000000) (h2 : kb.length ≤ 2000000) (h3 : bringsW l l.length ≤ 2000000) (h4 : l.length ≤ 2000000) :
    Calls Tryd.prog 8 #[.slice A ka.length ca, .slice B kb.length cb, .slice C l.length c] w fun r w' => r = .returned (.bool true) ∧ Frm noB w w' := by
  obtain ⟨KA, KC, ks, hks, hkr⟩ := three_keys w A B ka kb ca cb 2000000 hx hy hca hcb h1 h2
  have HT := Lib.hid hT
  have HZ := Lib.hid hz
  have HKR := Lib.hid hkr
  have HKS := Lib.hid hks
  clear hT hx hy hz hks hkr
  go_enter Tryd.func8, Tryd.ntmps8
  go_upto_region 2 with fail
  have hb := Blk.new w 57 #[.slice A ka.length ca, .slice B kb.length cb, .slice A ka.length ca]
  have hf : Frm noB w (w.alloc (.cells #[.slice A ka.length ca, .slice B kb.length cb, .slice A ka.length ca] 57)) := (Frm.refl _ _).alloc _
  change Code.wp _ _ _ _ (w.alloc (.cells #[.slice A ka.length ca, .slice B kb.length cb, .slice A ka.length ca] 57))
  generalize w.alloc (.cells #[.slice A ka.length ca, .slice B kb.length cb, .slice A ka.length ca] 57) = w1 at *
  rw [HKS.out] at hb
  have HB1 := Lib.hid hb
  have HF1 := Lib.hid hf
  have hs1 : w.heap.size < w1.heap.size := hb.lt
  clear hb hf HKS
  go_upto_region 3 with fail
  have h0 : Macs (w1.alloc (.cells #[.pointer none, .pointer none, .pointer none] 59)) w1.heap.size w1.heap.size (fun _ => 0) (fun _ => 0) ks (fun _ => []) 0 :=
    ⟨(Blk.new w1 _ (arr 3 fun _ => .pointer none)).same fun i _ => by rw [if_neg (by omega)], fun i h => absurd h (by omega), fun i h => absurd h (by omega), fun i j h => absurd h (by omega), Nat.le_refl _⟩
  have hf0 : Frm noB w1 (w1.alloc (.cells #[.pointer none, .pointer none, .pointer none] 59)) := (Frm.refl _ _).alloc _
  change Code.wp _ _ _ _ (w1.alloc (.cells #[.pointer none, .pointer none, .pointer none] 59))
  generalize w1.alloc (.cells #[.pointer none, .pointer none, .pointer none] 59) = w2 at *
  have H0 := Lib.hid h0
  have HF0 := Lib.hid hf0
  have hs2 : w1.heap.size < w2.heap.size := h0.arr.lt
  clear h0 hf0
  go_wp2_with fail
  go_loopw [9] (fun i wr => ∃ (k : Nat) (ps bs : Nat → Nat), k ≤ 3 ∧ i = .int .i64 k ∧ Macs wr w1.heap.size w1.heap.size ps bs ks (fun _ => []) k ∧ Frm noB w1 wr) (fun i _ => 3 - (intOf i).toNat)
  case atStart => exact ⟨0, _, _, by omega, rfl, H0.out, HF0.out⟩
  case round =>
    clear H0 HF0
    obtain ⟨k, ps, bs, hk, rfl, hI, hF⟩ := hrel
    obtain ⟨wo, rfl⟩ : ∃ wo : World, wo = wr := ⟨_, rfl⟩
    have HI := Lib.hid hI
    have HF := Lib.hid hF
    have hsr := hF.size
    clear hI hF
    by_cases hlt : k < 3
    · have hkk := HKR.out k
      obtain ⟨hr0, hkc, hkl⟩ := hkk
      have HR0 := Lib.hid hr0
      have e0 : wo.cell? ⟨w.heap.size, k, none⟩ = some (.slice (KA k) (ks k).length (KC k)) := (HB1.out.frm' HF.out).at_ hlt
      clear hr0
      generalize hke : ks k = key at *
      have HKE := Lib.hid hke
      generalize KA k = Ak at *
      generalize KC k = ck at *
      clear hke
      go_wp2_with fail
      refine (lent_any wo Ak key ck (HR0.out.frm' (HF1.out.trans' HF.out)) (by omega)).mono ?_
      rintro _ w3 ⟨A1, c1, rfl, ho1, hf1⟩
      have hc1 : key.length + 64 ≤ c1 := by obtain ⟨_, _, e, h⟩ := own_slice ho1; injection e with _ _ e3; omega
      have hck : key.length ≤ c1 := by omega
      have HO1 := Lib.hid ho1
      have HF3 := Lib.hid hf1
      have e1 := hf1.cell_some e0 (fun h => h)
      have a0 : w3.cell? ⟨w1.heap.size, k, none⟩ = some (.pointer none) := by rw [(HI.out.frm' hf1).arr.at_ hlt, if_neg (by omega)]
      have f0 := (HI.out.frm' hf1).arr.frozen k
      have hs3 := hf1.size
      clear ho1 hf1 e0
      try dsimp only
      go_upto_region 7 with fail
      go_wp2_with fail
      have hr : Rd w3 A1 (key.map bv) := by
        have h := (Rd.of_own HO1.out).takeB key.length
        unfold lentL at h
        rwa [List.take_left] at h
      refine (newmac_any w3 A1 key c1 (HT.out.frm' (HF1.out.trans' (HF.out.trans' HF3.out))) hr hck (by omega)).mono ?_
      rintro _ w4 ⟨mm, b, rfl, hm, hb, hM4, hf4⟩
      have hput := (HI.out.frm' HF3.out).put hf4 (mm := mm) (b := b) (by rw [HKE.out]; exact hM4) hm hb (by omega)
      have hs : Frm (fun q => q = w1.heap.size) w4 (w4.setCell ⟨w1.heap.size, k, none⟩ (.pointer (some ⟨mm, 0, none⟩))) := Frm.setCell (S := fun q => q = w1.heap.size) (Frm.refl _ _) (.inl rfl) _
      have e4 := hf4.cell_some e1 (fun h => h)
      have e5 := hs.cell_some e4 (fun h => by have h : w.heap.size = w1.heap.size := h; omega)
      have ho5 := own_frm (own_frm' HO1.out hf4) hs fun q hq h => by have := (own_lt HO1.out q hq).1; have := HI.out.arr.lt; have h : q = w1.heap.size := h; omega
      have hf5 : Frm noB w1 (w4.setCell ⟨w1.heap.size, k, none⟩ (.pointer (some ⟨mm, 0, none⟩))) := ((HF.out.trans' HF3.out).trans' hf4).setCell (.inr (Nat.le_refl _)) _
      have a4 : w4.cell? ⟨w1.heap.size, k, none⟩ = some (.pointer none) := hf4.cell_some a0 (fun h => h)
      have f4 : w4.frozen? ⟨w1.heap.size, k, none⟩ = false := ((HI.out.frm' HF3.out).frm' hf4).arr.frozen k
      have a5 : (w4.setCell ⟨w1.heap.size, k, none⟩ (.pointer (some ⟨mm, 0, none⟩))).cell? ⟨w1.heap.size, k, none⟩ = some (.pointer (some ⟨mm, 0, none⟩)) := by
        rw [hput.arr.at_ hlt, if_pos (by omega), updm_same]
      have HP := Lib.hid hput
      have HO5 := Lib.hid ho5
      have HF5 := Lib.hid hf5
      have hs5 : w3.heap.size ≤ w4.heap.size := hf4.size
      clear hput hs e4 ho5 hf5 hM4 hf4 hr e1 a0 f0
      try dsimp only
      go_upto_region 8 with fail
      generalize w4.setCell ⟨w1.heap.size, k, none⟩ (.pointer (some ⟨mm, 0, none⟩)) = w5 at *
      clear a4 f4
      go_wp2_with fail
      refine (kept1_any w5 A1 Ak key c1 ck (Rd.of_own HO5.out) (HR0.out.frm' (HF1.out.trans' HF5.out)) (by omega)).mono ?_
      rintro _ w6 ⟨rfl, hf6⟩
      have HP6 := Lib.hid (HP.out.frm' hf6)
      have HO6 := Lib.hid (own_frm' HO5.out hf6)
      have HF6 := Lib.hid (HF5.out.trans' hf6)
      clear hf6 HP HO5 HF5 e5 a5 HI HO1
      try dsimp only
      go_wp2_with fail
      have hge : w1.heap.size ≤ wo.heap.size := hsr
      go_loopw [11] (fun i wq => ∃ (n : Nat) (xs : List Value), n ≤ key.length + 64 ∧ i = .int .i64 n ∧ Macs wq w1.heap.size w1.heap.size (updm ps k mm) (updm bs k b) ks (fun _ => []) (k + 1) ∧ wq.ownsRow wo.heap.size 5 1 (.slice A1 (key.length + 64) c1) (key.length + 64) xs ∧ Frm noB w1 wq) (fun i _ => key.length + 64 - (intOf i).toNat)
      case atStart => exact ⟨0, _, by omega, rfl, HP6.out, HO6.out, HF6.out⟩
      case round =>
        clear HP6 HO6 HF6
        obtain ⟨n, xs, hn, rfl, hI, ho, hF⟩ := hrel
        have HI := Lib.hid hI
        have HO := Lib.hid ho
        have HF := Lib.hid hF
        clear hI ho hF
        by_cases hlt2 : n < key.length + 64
        · obtain ⟨g, u, rfl, hcu, hfz, hg, hst⟩ := own_place HO.out hlt2
          have HST := Lib.hid hst
          clear hst
          go_wp2_with fail
          have hgw := (own_lt HO.out g hg).1
          have hI2 := HI.out.rowSet HO.out hg (.int .u8 9) (j := n)
          exact ⟨⟨n + 1, _, by omega, by go_num, hI2, HST.out _, HF.out.setCell (.inr (by show w1.heap.size ≤ g; omega)) _⟩, by simp [intOf]; omega⟩
        · go_wp2_with fail
          exact ⟨⟨k + 1, _, _, by omega, by go_num, HI.out, HF.out⟩, by simp [intOf]; omega⟩
    · have e : k = 3 := by omega
      subst e
      rw [show ((3 : Nat) : Int) = 3 from rfl]
      go_upto_region 15 with fail
      have hx0 : Texts (wo.alloc (.cells #[.slice none 0 0, .slice none 0 0, .slice none 0 0] 57)) w1.heap.size wo.heap.size (fun _ => .slice none 0 0) (fun _ => []) := Texts.new wo w1.heap.size _ (fun _ => rfl) hsr
      have hf0 : Frm noB wo (wo.alloc (.cells #[.slice none 0 0, .slice none 0 0, .slice none 0 0] 57)) := (Frm.refl _ _).alloc _
      change Code.wp _ _ _ _ (wo.alloc (.cells #[.slice none 0 0, .slice none 0 0, .slice none 0 0] 57))
      generalize wo.alloc (.cells #[.slice none 0 0, .slice none 0 0, .slice none 0 0] 57) = w3 at *
      have HX0 := Lib.hid hx0
      have HI0 := Lib.hid (HI.out.frm' hf0)
      have HF0 := Lib.hid (HF.out.trans' hf0)
      clear hx0 hf0 HI HF
      go_wp2_with fail
      go_loopw [13] (fun i wr => ∃ (k : Nat) (vs : Nat → Value) (ts : Nat → List UInt8), k ≤ l.length ∧ i = .int .i64 k ∧ Macs wr w1.heap.size w1.heap.size ps bs ks ts 3 ∧ Texts wr w1.heap.size wo.heap.size vs ts ∧ (∀ i, (ts i).length ≤ bringsW l k) ∧ Frm noB w1 wr) (fun i _ => l.length - (intOf i).toNat)
      case atStart => exact ⟨0, _, _, Nat.zero_le _, rfl, HI0.out, HX0.out, fun _ => Nat.zero_le _, HF0.out⟩
      case round =>
        clear HI0 HX0 HF0
        obtain ⟨k, vs, ts, hk, rfl, hI, hX, hL, hF⟩ := hrel
        have HI := Lib.hid hI
        have HX := Lib.hid hX
        have HL := Lib.hid hL
        have HF := Lib.hid hF
        clear hI hX hL hF
        by_cases hlt : k < l.length
        · obtain ⟨bo, o, Ai, ci, rfl, d0, d1, d2, b0, b1, hci, hri⟩ := (HZ.out.frm' HF1.out) k hlt
          have c0 := HF.out.cell_some d0 (fun h => h)
          have c1 := HF.out.cell_some d1 (fun h => h)
          have c2 := HF.out.cell_some d2 (fun h => h)
          clear d0 d1 d2
          have HR := Lib.hid (hri.frm' HF.out)
          have HZR := Lib.hid hri
          have hbr := bringsW_succ l hlt
          have hbl := bringsW_le l (k + 1)
          clear hri
          generalize l[k].kind = kind at *
          generalize l[k].on = on at *
          generalize hbe : l[k].b = xs at *
          clear hbe
          obtain ⟨r, hr, hr3⟩ : ∃ r : Nat, wrap64 ((IntKind.u64.wrap on).tmod 3) = (r : Int) ∧ r < 3 := by
            have h0 : 0 ≤ (IntKind.u64.wrap on).tmod 3 := Int.tmod_nonneg _ (u64_ge on)
            have h1 : (IntKind.u64.wrap on).tmod 3 < 3 := Int.tmod_lt_of_pos _ (by decide)
            refine ⟨((IntKind.u64.wrap on).tmod 3).toNat, ?_, by omega⟩
            rw [Int.toNat_of_nonneg h0]
            unfold wrap64
            omega
          have q0 : (0 : Int) ≤ (r : Int) := Int.natCast_nonneg _
          have q3 : (r : Int) < 3 := by omega
          have q4 : ¬ (3 : Int) ≤ (r : Int) := by omega
          go_upto_region 19 with fail
          have hob := Blk.new wr 63 #[.int .i64 on, .int .i64 kind, .slice Ai xs.length ci]
          have hfo : Frm noB wr (wr.alloc (.cells #[.int .i64 on, .int .i64 kind, .slice Ai xs.length ci] 63)) := (Frm.refl _ _).alloc _
          change Code.wp _ _ _ _ (wr.alloc (.cells #[.int .i64 on, .int .i64 kind, .slice Ai xs.length ci] 63))
          generalize wr.alloc (.cells #[.int .i64 on, .int .i64 kind, .slice Ai xs.length ci] 63) = w4 at *
          generalize hobe : wr.heap.size = ob at *
          have o0 : w4.cell? ⟨ob, 0, none⟩ = some (.int .i64 on) := hob.cell 0
          have o1 : w4.cell? ⟨ob, 1, none⟩ = some (.int .i64 kind) := hob.cell 1
          have o2 : w4.cell? ⟨ob, 2, none⟩ = some (.slice Ai xs.length ci) := hob.cell 2
          have HOB := Lib.hid hob
          have HNO : Hid (ob ≠ wo.heap.size) := Lib.hid (hob.ne_ (HX.out.bl.frm' hfo) (by decide))
          have HF4 := Lib.hid (HF.out.trans' hfo)
          have HI4 := Lib.hid (HI.out.frm' hfo)
          have HX4 := Lib.hid (HX.out.frm' hfo)
          have HR4 := Lib.hid (HR.out.frm' hfo)
          clear hob hfo c0 c1 c2 HF HI HR HX hobe
          go_upto_region 20 with fail
          rw [hr]
          obtain ⟨Av, cv, hv, hcv⟩ := own_slice (HX4.out.each r hr3)
          obtain ⟨hkr, hkc, hkl⟩ := HKR.out r
          have htl := HL.out r
          have HKRR := Lib.hid hkr
          have HV := Lib.hid hv
          clear o0 hr b0 b1 hkr hv
          by_cases hk0 : kind = 0
          · subst hk0
            go_wp2_with fail
            refine (lent_any w4 Ai xs ci HR4.out (by omega)).mono ?_
            rintro _ w5 ⟨A1, c1, rfl, ho1, hf1⟩
            have hc1 : xs.length + 64 ≤ c1 := by obtain ⟨_, _, e, h⟩ := own_slice ho1; injection e with _ _ e3; omega
            have hck : xs.length ≤ c1 := by omega
            have HO5 := Lib.hid ho1
            have o5 := hf1.cell_some o2 (fun h => h)
            have HI5 := Lib.hid (HI4.out.frm' hf1)
            have HX5 := Lib.hid (HX4.out.frm' hf1)
            have HR5 := Lib.hid (HR4.out.frm' hf1)
            have HF5 := Lib.hid (HF4.out.trans' hf1)
            have HOB5 := Lib.hid (HOB.out.frm' hf1)
            have m5 := HI5.out.at_ hr3
            have HSEP : Hid (∀ i, i < 3 → ∀ q, oB (vs i) q → q < w4.heap.size) := Lib.hid fun i hi q hq => (own_lt (HX4.out.each i hi) q hq).2
            have h14 : w1.heap.size ≤ w4.heap.size := HF4.out.size
            clear ho1 hf1 HI4 HX4 HR4 HF4 HOB o1 o2
            try dsimp only
            go_upto_region 22 with fail
            have s5 : w5.drew.cell? ⟨w1.heap.size, r, none⟩ = some (.pointer (some ⟨ps r, 0, none⟩)) ∧ w5.drew.cell? ⟨ob, 2, none⟩ = some (.slice Ai xs.length ci) := ⟨m5, o5⟩
            have hfd : Frm noB w5 w5.drew := (Frm.refl noB w5).drew
            have HI6 := Lib.hid (HI5.out.frm' hfd)
            have HX6 := Lib.hid (HX5.out.frm' hfd)
            have HF6 := Lib.hid (HF5.out.trans' hfd)
            have HOB6 := Lib.hid (HOB5.out.frm' hfd)
            have HO6 := Lib.hid (own_frm' HO5.out hfd)
            clear hfd HI5 HX5 HR5 HF5 HOB5 HO5 m5 o5
            refine wp_region_held_drew (S := fun w' => w'.cell? ⟨w1.heap.size, r, none⟩ = some (.pointer (some ⟨ps r, 0, none⟩)) ∧ w'.cell? ⟨ob, 2, none⟩ = some (.slice Ai xs.length ci)) (by kernel_rfl) s5 (fun hHeld => ?_)
            generalize w5.drew = w6 at *
            refine takeC (i := 0) (.int .i64 r) rfl (by kernel_rfl) (by kernel_rfl) (by kernel_rfl) (fun _ _ _ h => h) (Or.inl ⟨by rfl, fun w hw => by go_simp⟩) s5 ?_
            try simp only [Act.put, List.setIfInBounds_toArray, List.set_cons_zero, List.set_cons_succ]
            refine takeC (i := 1) (.pointer (some ⟨w1.heap.size, r, none⟩)) rfl (by kernel_rfl) (by kernel_rfl) (by kernel_rfl) (fun _ _ _ h => h) (Or.inl ⟨by rfl, fun w hw => by go_simp⟩) s5 ?_
            try simp only [Act.put, List.setIfInBounds_toArray, List.set_cons_zero, List.set_cons_succ]
            refine takeC (i := 2) (.pointer (some ⟨ps r, 0, none⟩)) rfl (by kernel_rfl) (by kernel_rfl) (by kernel_rfl) (fun _ _ _ h => h) (Or.inl ⟨by rfl, fun w hw => by go_simp⟩) s5 ?_
            try simp only [Act.put, List.setIfInBounds_toArray, List.set_cons_zero, List.set_cons_succ]
            refine takeC (i := 3) (.slice A1 (xs.length + 64) c1) rfl (by kernel_rfl) (by kernel_rfl) (by kernel_rfl) (fun _ _ _ h => h) (Or.inl ⟨by rfl, fun w hw => by go_simp⟩) s5 ?_
            try simp only [Act.put, List.setIfInBounds_toArray, List.set_cons_zero, List.set_cons_succ]
            refine takeC (i := 4) (.pointer (some ⟨ob, 2, none⟩)) rfl (by kernel_rfl) (by kernel_rfl) (by kernel_rfl) (fun _ _ _ h => h) (Or.inl ⟨by rfl, fun w hw => by go_simp⟩) s5 ?_
            try simp only [Act.put, List.setIfInBounds_toArray, List.set_cons_zero, List.set_cons_succ]
            refine takeC (i := 5) (.slice Ai xs.length ci) rfl (by kernel_rfl) (by kernel_rfl) (by kernel_rfl) (fun _ _ _ h => h) (Or.inl ⟨by rfl, fun w hw => by go_simp⟩) s5 ?_
            try simp only [Act.put, List.setIfInBounds_toArray, List.set_cons_zero, List.set_cons_succ]
            refine takeC (i := 6) (.int .i64 xs.length) rfl (by kernel_rfl) (by kernel_rfl) (by kernel_rfl) (fun _ _ _ h => h) (Or.inl ⟨by rfl, fun w hw => by go_simp⟩) s5 ?_
            try simp only [Act.put, List.setIfInBounds_toArray, List.set_cons_zero, List.set_cons_succ]
            refine takeC (i := 7) (.slice A1 xs.length c1) rfl (by kernel_rfl) (by kernel_rfl) (by kernel_rfl) (fun _ _ _ h => h) (Or.inl ⟨by rfl, fun w hw => by go_simp⟩) s5 ?_
            try simp only [Act.put, List.setIfInBounds_toArray, List.set_cons_zero, List.set_cons_succ]
            refine consC (i := 8) rfl (by kernel_rfl) (fun K hK => ?_)
            go_simp
            go_at_call 36
            have hM := HI6.out.each r hr3
            have hrx : Rd w6 A1 (xs.map bv) := by
              have h := (Rd.of_own HO6.out).takeB xs.length
              unfold lentL at h
              rwa [List.take_left] at h
            refine (macwrite_n w6 (ps r) (bs r) (ks r) (ts r) A1 xs xs.length c1 rfl (HT.out.frm' (HF1.out.trans' HF6.out)) hM hrx (fun _ q ⟨a, ha, hq⟩ e => hM.hown HO6.out (by decide) (by subst ha; rw [← e, ← hq]; rfl)) hck (by omega) (by omega)).mono ?_
            rintro _ w7 ⟨rfl, hM7, hf7⟩
            have HI7 := Lib.hid (HI6.out.step hr3 hM7 hf7)
            have HX7 := Lib.hid (HX6.out.mac hM hf7)
            have HOB7 : Hid (Blk w7 ob _ _) := Lib.hid (HOB6.out.frm hf7 fun e => hM.hblk HOB6.out (by decide) (Eq.symm e))
            have HO7 := Lib.hid (own_frm HO6.out hf7 fun q hq e => hM.hown HO6.out (by decide) (by have e : q = bs r := e; rw [← e]; exact hq))
            have HF7 : Hid (Frm noB w1 w7) := Lib.hid (HF6.out.trans hf7 fun q hq e => by have := (HI6.out.gp r hr3).2; have e : q = bs r := e; omega)
            have o7 : w7.cell? ⟨ob, 2, none⟩ = some (.slice Ai xs.length ci) := HOB7.out.cell 2
            have s7 := And.intro (HI7.out.at_ hr3) o7
            clear hM hrx hM7 hf7 HI6 HX6 HOB6 HO6 HF6
            try dsimp only
            refine hK.out _ _ s7 (fun hHeld => ?_)
            clear hK K
            try simp only [Act.put, List.setIfInBounds_toArray, List.set_cons_zero, List.set_cons_succ]
            refine takeC (i := 9) (.tuple #[.int .i64 xs.length, Value.nilIface]) rfl (by kernel_rfl) (by kernel_rfl) (by kernel_rfl) (fun _ _ _ h => h) (Or.inl ⟨by rfl, fun w hw => by go_simp⟩) s7 ?_
            try simp only [Act.put, List.setIfInBounds_toArray, List.set_cons_zero, List.set_cons_succ]
            refine takeC (i := 10) (.int .i64 xs.length) rfl (by kernel_rfl) (by kernel_rfl) (by kernel_rfl) (fun _ _ _ h => h) (Or.inl ⟨by rfl, fun w hw => by go_simp⟩) s7 ?_
            try simp only [Act.put, List.setIfInBounds_toArray, List.set_cons_zero, List.set_cons_succ]
            refine takeC (i := 11) (Value.nilIface) rfl (by kernel_rfl) (by kernel_rfl) (by kernel_rfl) (fun _ _ _ h => h) (Or.inl ⟨by rfl, fun w hw => by go_simp⟩) s7 ?_
            try simp only [Act.put, List.setIfInBounds_toArray, List.set_cons_zero, List.set_cons_succ]
            refine takeC (i := 12) (.int .i64 xs.length) rfl (by kernel_rfl) (by kernel_rfl) (by kernel_rfl) (fun _ _ _ h => h) (Or.inl ⟨by rfl, fun w hw => by go_simp⟩) s7 ?_
            try simp only [Act.put, List.setIfInBounds_toArray, List.set_cons_zero, List.set_cons_succ]
            refine takeC (i := 13) (Value.nilIface) rfl (by kernel_rfl) (by kernel_rfl) (by kernel_rfl) (fun _ _ _ h => h) (Or.inl ⟨by rfl, fun w hw => by go_simp⟩) s7 ?_
            try simp only [Act.put, List.setIfInBounds_toArray, List.set_cons_zero, List.set_cons_succ]
            refine wpAnyH_done (by kernel_rfl) ?_ _
            clear s5 s7 hHeld
            go_wp2_with fail
            refine (kept1_any w7 A1 Ai xs c1 ci (Rd.of_own HO7.out) (HZR.out.frm' HF7.out) (by omega)).mono ?_
            rintro _ w8 ⟨rfl, hf⟩
            have HI8 := Lib.hid (HI7.out.frm' hf)
            have HX8 := Lib.hid (HX7.out.frm' hf)
            have HOB8 := Lib.hid (HOB7.out.frm' hf)
            have HO8 := Lib.hid (own_frm' HO7.out hf)
            have HF8 := Lib.hid (HF7.out.trans' hf)
            clear hf HI7 HX7 HOB7 HO7 HF7 o7
            try dsimp only
            go_wp2_with fail
            go_loopw [19] (fun i wq => ∃ (n : Nat) (us : List Value), n ≤ xs.length + 64 ∧ i = .int .i64 n ∧ Macs wq w1.heap.size w1.heap.size ps bs ks (updm ts r (ts r ++ xs)) 3 ∧ Texts wq w1.heap.size wo.heap.size vs ts ∧ Blk wq ob 63 #[.int .i64 on, .int .i64 0, .slice Ai xs.length ci] ∧ wq.ownsRow w4.heap.size 5 1 (.slice A1 (xs.length + 64) c1) (xs.length + 64) us ∧ Frm noB w1 wq) (fun i _ => xs.length + 64 - (intOf i).toNat)
            case atStart => exact ⟨0, _, by omega, rfl, HI8.out, HX8.out, HOB8.out, HO8.out, HF8.out⟩
            case round =>
              clear HI8 HX8 HOB8 HO8 HF8
              obtain ⟨n, us, hn, rfl, hI, hX, hB, ho, hF⟩ := hrel
              have HI := Lib.hid hI
              have HX := Lib.hid hX
              have HOB := Lib.hid hB
              have HO := Lib.hid ho
              have HF := Lib.hid hF
              clear hI hX hB ho hF
              by_cases hlt2 : n < xs.length + 64
              · obtain ⟨g, u, rfl, hcu, hfz, hg, hst⟩ := own_place HO.out hlt2
                have HST := Lib.hid hst
                clear hst
                go_wp2_with fail
                have hgw := (own_lt HO.out g hg).1
                have hI2 := HI.out.rowSet HO.out hg (.int .u8 7) (j := n)
                have hX2 := HX.out.rowSet HO.out hg HSEP.out (.int .u8 7) (j := n)
                have hB2 := HOB.out.far (p := ⟨g, n, none⟩) (fun e => HOB.out.own_ne HO.out (by decide) (by have e : ob = g := e; rw [e]; exact hg)) (.int .u8 7)
                exact ⟨⟨n + 1, _, by omega, by go_num, hI2, hX2, hB2, HST.out _, HF.out.setCell (.inr (by show w1.heap.size ≤ g; omega)) _⟩, by simp [intOf]; omega⟩
              · go_upto_region 29 with fail
                have o2 : wr.cell? ⟨ob, 2, none⟩ = some (.slice Ai xs.length ci) := HOB.out.cell 2
                have x0 : wr.cell? ⟨wo.heap.size, r, none⟩ = some (.slice Av (ts r).length cv) := by rw [HX.out.at_ hr3, HV.out]
                have s0 : wr.drew.cell? ⟨ob, 2, none⟩ = some (.slice Ai xs.length ci) := o2
                have x0d : wr.drew.cell? ⟨wo.heap.size, r, none⟩ = some (.slice Av (ts r).length cv) := x0
                have hfd : Frm noB wr wr.drew := (Frm.refl noB wr).drew
                have HI2 := Lib.hid (HI.out.frm' hfd)
                have HX2 := Lib.hid (HX.out.frm' hfd)
                have HF2 := Lib.hid (HF.out.trans' hfd)
                have HOB2 := Lib.hid (HOB.out.frm' hfd)
                clear hfd HI HX HF HOB HO x0 o2
                refine wp_region_held_drew (S := fun w' => w'.cell? ⟨ob, 2, none⟩ = some (.slice Ai xs.length ci)) (by kernel_rfl) s0 (fun hHeld => ?_)
                generalize wr.drew = w9 at *
                refine takeC (i := 0) (.int .i64 r) rfl (by kernel_rfl) (by kernel_rfl) (by kernel_rfl) (fun _ _ _ h => h) (Or.inl ⟨by rfl, fun w hw => by go_simp⟩) s0 ?_
                try simp only [Act.put, List.setIfInBounds_toArray, List.set_cons_zero, List.set_cons_succ]
                refine takeC (i := 1) (.int .i64 r) rfl (by kernel_rfl) (by kernel_rfl) (by kernel_rfl) (fun _ _ _ h => h) (Or.inl ⟨by rfl, fun w hw => by go_simp⟩) s0 ?_
                try simp only [Act.put, List.setIfInBounds_toArray, List.set_cons_zero, List.set_cons_succ]
                refine takeC (i := 2) (.pointer (some ⟨wo.heap.size, r, none⟩)) rfl (by kernel_rfl) (by kernel_rfl) (by kernel_rfl) (fun _ _ _ h => h) (Or.inl ⟨by rfl, fun w hw => by go_simp⟩) s0 ?_
                try simp only [Act.put, List.setIfInBounds_toArray, List.set_cons_zero, List.set_cons_succ]
                refine takeC (i := 4) (.pointer (some ⟨ob, 2, none⟩)) rfl (by kernel_rfl) (by kernel_rfl) (by kernel_rfl) (fun _ _ _ h => h) (Or.inl ⟨by rfl, fun w hw => by go_simp⟩) s0 ?_
                try simp only [Act.put, List.setIfInBounds_toArray, List.set_cons_zero, List.set_cons_succ]
                refine takeC (i := 5) (.slice Ai xs.length ci) rfl (by kernel_rfl) (by kernel_rfl) (by kernel_rfl) (fun _ _ _ h => h) (Or.inl ⟨by rfl, fun w hw => by go_simp⟩) s0 ?_
                try simp only [Act.put, List.setIfInBounds_toArray, List.set_cons_zero, List.set_cons_succ]
                refine consC (i := 3) rfl (by kernel_rfl) (fun K hK => ?_)
                go_simp
                refine hK.out _ _ s0 (fun hHeld => ?_)
                clear hK K
                try simp only [Act.put, List.setIfInBounds_toArray, List.set_cons_zero, List.set_cons_succ]
                refine consC (i := 6) rfl (by kernel_rfl) (fun K hK => ?_)
                have hot := HX2.out.each r hr3
                rw [HV.out] at hot
                have hge : w1.heap.size ≤ w9.heap.size := HF2.out.size
                refine step_app info29 rfl w1.heap.size hot (.tmp 124) (.tmp 126) rfl rfl rfl (by rw [List.length_map, Nat.mul_one]) (HZR.out.frm' HF2.out) (bv_one _) (by omega) (by omega) hge ?_
                intro A5 c5 w10 ho5 hc5 hf5 hv5
                rw [← List.map_append] at ho5
                have hl5 : (ts r ++ xs).length = (ts r).length + xs.length := by simp
                have hf5' : Frm (oB (vs r)) w9 w10 := by rw [HV.out]; exact hf5
                have hv5' : ∀ q, oB (.slice A5 ((ts r).length + xs.length) c5) q → oB (vs r) q ∨ w9.heap.size ≤ q := by rw [HV.out]; exact hv5
                have hX9 := HX2.out.app hr3 (t' := ts r ++ xs) (by rw [hl5]; exact ho5) hf5' hv5'
                have hI9 := (HI2.out.row HX2.out hr3 hf5').setT (HX2.out.bl.frm hf5' (HX2.out.bl.own_ne (HX2.out.each r hr3) (by decide))) (r := r) (.slice A5 ((ts r).length + xs.length) c5)
                have hbl9 := HX2.out.bl.frm hf5' (HX2.out.bl.own_ne (HX2.out.each r hr3) (by decide))
                have hob9 := HOB2.out.frm hf5' (HOB2.out.own_ne (HX2.out.each r hr3) (by decide))
                have k1 : w10.cell? ⟨wo.heap.size, r, none⟩ = some (.slice Av (ts r).length cv) := by rw [hbl9.at_ hr3, HV.out]
                have k2 : w10.cell? ⟨ob, 2, none⟩ = some (.slice Ai xs.length ci) := hob9.cell 2
                have k1f : w10.frozen? ⟨wo.heap.size, r, none⟩ = false := hbl9.frozen r
                have hF9 : Frm noB w1 (w10.setCell ⟨wo.heap.size, r, none⟩ (.slice A5 ((ts r).length + xs.length) c5)) := (HF2.out.trans hf5' fun q hq h => by have := (own_lt (HX2.out.each r hr3) q h).1; omega).setCell (.inr hsr) _
                have HI9 := Lib.hid hI9
                have HX9 := Lib.hid hX9
                have HF9 := Lib.hid hF9
                clear hI9 hX9 hF9 ho5 hf5 hv5 hf5' hv5' hot hbl9 hob9 HI2 HX2 HF2 HOB2 s0
                have hs6 : Frm (fun q => q = wo.heap.size) w10 (w10.setCell ⟨wo.heap.size, r, none⟩ (.slice A5 ((ts r).length + xs.length) c5)) := Frm.setCell (S := fun q => q = wo.heap.size) (Frm.refl _ _) (.inl rfl) _
                have hno : ob ≠ wo.heap.size := HNO.out
                have k6 := hs6.cell_some k2 hno
                refine hK.out _ _ k2 (fun hHeld => ?_)
                clear hK K
                try simp only [Act.put, List.setIfInBounds_toArray, List.set_cons_zero, List.set_cons_succ]
                refine takeC (i := 7) (.pointer (some ⟨wo.heap.size, r, none⟩)) rfl (by kernel_rfl) (by kernel_rfl) (by kernel_rfl) (fun _ _ _ h => h) (Or.inl ⟨by rfl, fun w hw => by go_simp⟩) k2 ?_
                try simp only [Act.put, List.setIfInBounds_toArray, List.set_cons_zero, List.set_cons_succ]
                refine consC (i := 8) rfl (by kernel_rfl) (fun K hK => ?_)
                go_simp
                refine hK.out _ _ k6 (fun hHeld => ?_)
                clear hK K
                try simp only [Act.put, List.setIfInBounds_toArray, List.set_cons_zero, List.set_cons_succ]
                refine wpAnyH_done (by kernel_rfl) ?_ _
                go_wp2_with fail
                exact ⟨⟨k + 1, _, _, by omega, by go_num, HI9.out, HX9.out, fun i => by
                  by_cases e : i = r
                  · subst e; rw [updm_same, hl5]; omega
                  · rw [updm_ne _ _ e]; have := HL.out i; omega, HF9.out⟩, by simp [intOf]; omega⟩
          · have hk0' : (kind == 0) = false := by simpa using hk0
            clear hk0
            go_upto_region 30 with fail
            obtain ⟨mt, hmt⟩ : ∃ mt, mt = macT (ks r) (ts r) := ⟨_, rfl⟩
            have HMT := Lib.hid hmt.symm
            have k0 : w4.cell? ⟨w.heap.size, r, none⟩ = some (.slice (KA r) (ks r).length (KC r)) := (HB1.out.frm' HF4.out).at_ hr3
            have x0 : w4.cell? ⟨wo.heap.size, r, none⟩ = some (.slice Av (ts r).length cv) := by rw [HX4.out.at_ hr3, HV.out]
            have hfd : Frm noB w4 w4.drew := (Frm.refl noB w4).drew
            have s4 : w4.drew.cell? ⟨w1.heap.size, r, none⟩ = some (.pointer (some ⟨ps r, 0, none⟩)) ∧ w4.drew.cell? ⟨w.heap.size, r, none⟩ = some (.slice (KA r) (ks r).length (KC r)) ∧ w4.drew.cell? ⟨wo.heap.size, r, none⟩ = some (.slice Av (ts r).length cv) := ⟨HI4.out.at_ hr3, k0, x0⟩
            have HI5 := Lib.hid (HI4.out.frm' hfd)
            have HX5 := Lib.hid (HX4.out.frm' hfd)
            have HF5 := Lib.hid (HF4.out.trans' hfd)
            have hE : ∀ w : World, (Op.equalIn 10000 26 (.agg (arr 32 (shaAt mt))) (.agg (arr 32 (shaAt mt)))).run Tryd.prog w = .ok true w := fun w => eq_sha' w mt
            clear hfd HI4 HX4 HF4 HR4 HOB k0 x0 hmt o1 o2
            refine wp_region_held_drew (S := fun w' => w'.cell? ⟨w1.heap.size, r, none⟩ = some (.pointer (some ⟨ps r, 0, none⟩)) ∧ w'.cell? ⟨w.heap.size, r, none⟩ = some (.slice (KA r) (ks r).length (KC r)) ∧ w'.cell? ⟨wo.heap.size, r, none⟩ = some (.slice Av (ts r).length cv)) (by kernel_rfl) s4 (fun hHeld => ?_)
            generalize w4.drew = w5 at *
            refine takeC (i := 0) (.int .i64 r) rfl (by kernel_rfl) (by kernel_rfl) (by kernel_rfl) (fun _ _ _ h => h) (Or.inl ⟨by rfl, fun w hw => by go_simp⟩) s4 ?_
            try simp only [Act.put, List.setIfInBounds_toArray, List.set_cons_zero, List.set_cons_succ]
            refine takeC (i := 1) (.pointer (some ⟨w1.heap.size, r, none⟩)) rfl (by kernel_rfl) (by kernel_rfl) (by kernel_rfl) (fun _ _ _ h => h) (Or.inl ⟨by rfl, fun w hw => by go_simp⟩) s4 ?_
            try simp only [Act.put, List.setIfInBounds_toArray, List.set_cons_zero, List.set_cons_succ]
            refine takeC (i := 2) (.pointer (some ⟨ps r, 0, none⟩)) rfl (by kernel_rfl) (by kernel_rfl) (by kernel_rfl) (fun _ _ _ h => h) (Or.inl ⟨by rfl, fun w hw => by go_simp⟩) s4 ?_
            try simp only [Act.put, List.setIfInBounds_toArray, List.set_cons_zero, List.set_cons_succ]
            refine takeC (i := 4) (.int .i64 r) rfl (by kernel_rfl) (by kernel_rfl) (by kernel_rfl) (fun _ _ _ h => h) (Or.inl ⟨by rfl, fun w hw => by go_simp⟩) s4 ?_
            try simp only [Act.put, List.setIfInBounds_toArray, List.set_cons_zero, List.set_cons_succ]
            refine takeC (i := 5) (.pointer (some ⟨w.heap.size, r, none⟩)) rfl (by kernel_rfl) (by kernel_rfl) (by kernel_rfl) (fun _ _ _ h => h) (Or.inl ⟨by rfl, fun w hw => by go_simp⟩) s4 ?_
            try simp only [Act.put, List.setIfInBounds_toArray, List.set_cons_zero, List.set_cons_succ]
            refine takeC (i := 6) (.slice (KA r) (ks r).length (KC r)) rfl (by kernel_rfl) (by kernel_rfl) (by kernel_rfl) (fun _ _ _ h => h) (Or.inl ⟨by rfl, fun w hw => by go_simp⟩) s4 ?_
            try simp only [Act.put, List.setIfInBounds_toArray, List.set_cons_zero, List.set_cons_succ]
            refine takeC (i := 7) (.int .i64 r) rfl (by kernel_rfl) (by kernel_rfl) (by kernel_rfl) (fun _ _ _ h => h) (Or.inl ⟨by rfl, fun w hw => by go_simp⟩) s4 ?_
            try simp only [Act.put, List.setIfInBounds_toArray, List.set_cons_zero, List.set_cons_succ]
            refine takeC (i := 8) (.pointer (some ⟨wo.heap.size, r, none⟩)) rfl (by kernel_rfl) (by kernel_rfl) (by kernel_rfl) (fun _ _ _ h => h) (Or.inl ⟨by rfl, fun w hw => by go_simp⟩) s4 ?_
            try simp only [Act.put, List.setIfInBounds_toArray, List.set_cons_zero, List.set_cons_succ]
            refine takeC (i := 9) (.slice Av (ts r).length cv) rfl (by kernel_rfl) (by kernel_rfl) (by kernel_rfl) (fun _ _ _ h => h) (Or.inl ⟨by rfl, fun w hw => by go_simp⟩) s4 ?_
            try simp only [Act.put, List.setIfInBounds_toArray, List.set_cons_zero, List.set_cons_succ]
            refine consC (i := 3) rfl (by kernel_rfl) (fun K hK => ?_)
            go_simp
            go_at_call 37
            have hS := macsum_any w5 (ps r) (bs r) (ks r) (ts r) (HT.out.frm' (HF1.out.trans' HF5.out)) (HI5.out.each r hr3) (by omega)
            rw [HMT.out] at hS
            refine hS.mono ?_
            rintro _ w6 ⟨rfl, hf⟩
            have HF6 := Lib.hid hf
            have s6 := And.intro (hf.cell_some s4.1 (fun h => h)) (And.intro (hf.cell_some s4.2.1 (fun h => h)) (hf.cell_some s4.2.2 (fun h => h)))
            clear hf hS
            try dsimp only
            refine hK.out _ _ s6 (fun hHeld => ?_)
            clear hK K
            try simp only [Act.put, List.setIfInBounds_toArray, List.set_cons_zero, List.set_cons_succ]
            refine consC (i := 10) rfl (by kernel_rfl) (fun K hK => ?_)
            go_simp
            go_at_call 38
            have hot := HX5.out.each r hr3
            rw [HV.out] at hot
            have hS := rmac_n w6 (KA r) Av (ks r) (ts r) (ks r).length (ts r).length (KC r) cv rfl rfl (HKRR.out.frm' (HF1.out.trans' (HF5.out.trans' HF6.out))) ((Rd.of_own hot).frm' HF6.out) (by unfold JLen; omega) (by omega)
            rw [HMT.out] at hS
            refine hS.mono ?_
            rintro _ w7 ⟨rfl, hf⟩
            have HF7 := Lib.hid (HF6.out.trans' hf)
            have s7 := And.intro (hf.cell_some s6.1 (fun h => h)) (And.intro (hf.cell_some s6.2.1 (fun h => h)) (hf.cell_some s6.2.2 (fun h => h)))
            clear hf hS hot
            try dsimp only
            refine hK.out _ _ s7 (fun hHeld => ?_)
            clear hK K
            try simp only [Act.put, List.setIfInBounds_toArray, List.set_cons_zero, List.set_cons_succ]
            refine takeC (i := 11) (.bool false) rfl (by kernel_rfl) (by kernel_rfl) (by kernel_rfl) (fun _ _ _ h => h) (Or.inl ⟨by rfl, fun w hw => by go_simp⟩) s7 ?_
            try simp only [Act.put, List.setIfInBounds_toArray, List.set_cons_zero, List.set_cons_succ]
            refine wpAnyH_done (by kernel_rfl) ?_ _
            go_wp2_with fail
            exact ⟨⟨k + 1, vs, ts, by omega, by go_num, HI5.out.frm' HF7.out, HX5.out.frm' HF7.out, fun i => by have := HL.out i; omega, HF5.out.trans' HF7.out⟩, by simp [intOf]; omega⟩
        · have e : k = l.length := by omega
          subst e
          have hbl := h3
          go_wp2_with fail
          go_loopw [20] (fun i wr => ∃ (k : Nat), k ≤ 3 ∧ i = .int .i64 k ∧ Macs wr w1.heap.size w1.heap.size ps bs ks ts 3 ∧ Texts wr w1.heap.size wo.heap.size vs ts ∧ Frm noB w1 wr) (fun i _ => 3 - (intOf i).toNat)
          case atStart => exact ⟨0, by omega, rfl, HI.out, HX.out, HF.out⟩
          case round =>
            clear HI HX HF
            obtain ⟨r, hk, rfl, hI, hX, hF⟩ := hrel
            have HI4 := Lib.hid hI
            have HX4 := Lib.hid hX
            have HF4 := Lib.hid hF
            clear hI hX hF
            by_cases hr3 : r < 3
            · have q0 : (0 : Int) ≤ (r : Int) := Int.natCast_nonneg _
              have q3 : (r : Int) < 3 := by omega
              have q4 : ¬ (3 : Int) ≤ (r : Int) := by omega
              obtain ⟨Av, cv, hv, hcv⟩ := own_slice (HX4.out.each r hr3)
              obtain ⟨hkr, hkc, hkl⟩ := HKR.out r
              have htl := HL.out r
              have HKRR := Lib.hid hkr
              have HV := Lib.hid hv
              clear hkr hv
              go_upto_region 35 with fail
              obtain ⟨mt, hmt⟩ : ∃ mt, mt = macT (ks r) (ts r) := ⟨_, rfl⟩
              have HMT := Lib.hid hmt.symm
              have k0 : wr.cell? ⟨w.heap.size, r, none⟩ = some (.slice (KA r) (ks r).length (KC r)) := (HB1.out.frm' HF4.out).at_ hr3
              have x0 : wr.cell? ⟨wo.heap.size, r, none⟩ = some (.slice Av (ts r).length cv) := by rw [HX4.out.at_ hr3, HV.out]
              have hfd : Frm noB wr wr.drew := (Frm.refl noB wr).drew
              have s4 : wr.drew.cell? ⟨w1.heap.size, r, none⟩ = some (.pointer (some ⟨ps r, 0, none⟩)) ∧ wr.drew.cell? ⟨w.heap.size, r, none⟩ = some (.slice (KA r) (ks r).length (KC r)) ∧ wr.drew.cell? ⟨wo.heap.size, r, none⟩ = some (.slice Av (ts r).length cv) := ⟨HI4.out.at_ hr3, k0, x0⟩
              have HI5 := Lib.hid (HI4.out.frm' hfd)
              have HX5 := Lib.hid (HX4.out.frm' hfd)
              have HF5 := Lib.hid (HF4.out.trans' hfd)
              have hE : ∀ w : World, (Op.equalIn 10000 26 (.agg (arr 32 (shaAt mt))) (.agg (arr 32 (shaAt mt)))).run Tryd.prog w = .ok true w := fun w => eq_sha' w mt
              clear hfd HI4 HX4 HF4 k0 x0 hmt
              refine wp_region_held_drew (S := fun w' => w'.cell? ⟨w1.heap.size, r, none⟩ = some (.pointer (some ⟨ps r, 0, none⟩)) ∧ w'.cell? ⟨w.heap.size, r, none⟩ = some (.slice (KA r) (ks r).length (KC r)) ∧ w'.cell? ⟨wo.heap.size, r, none⟩ = some (.slice Av (ts r).length cv)) (by kernel_rfl) s4 (fun hHeld => ?_)
              generalize wr.drew = w5 at *
              refine takeC (i := 0) (.int .i64 r) rfl (by kernel_rfl) (by kernel_rfl) (by kernel_rfl) (fun _ _ _ h => h) (Or.inl ⟨by rfl, fun w hw => by go_simp⟩) s4 ?_
              try simp only [Act.put, List.setIfInBounds_toArray, List.set_cons_zero, List.set_cons_succ]
              refine takeC (i := 1) (.pointer (some ⟨w1.heap.size, r, none⟩)) rfl (by kernel_rfl) (by kernel_rfl) (by kernel_rfl) (fun _ _ _ h => h) (Or.inl ⟨by rfl, fun w hw => by go_simp⟩) s4 ?_
              try simp only [Act.put, List.setIfInBounds_toArray, List.set_cons_zero, List.set_cons_succ]
              refine takeC (i := 2) (.pointer (some ⟨ps r, 0, none⟩)) rfl (by kernel_rfl) (by kernel_rfl) (by kernel_rfl) (fun _ _ _ h => h) (Or.inl ⟨by rfl, fun w hw => by go_simp⟩) s4 ?_
              try simp only [Act.put, List.setIfInBounds_toArray, List.set_cons_zero, List.set_cons_succ]
              refine takeC (i := 4) (.int .i64 r) rfl (by kernel_rfl) (by kernel_rfl) (by kernel_rfl) (fun _ _ _ h => h) (Or.inl ⟨by rfl, fun w hw => by go_simp⟩) s4 ?_
              try simp only [Act.put, List.setIfInBounds_toArray, List.set_cons_zero, List.set_cons_succ]
              refine takeC (i := 5) (.pointer (some ⟨w.heap.size, r, none⟩)) rfl (by kernel_rfl) (by kernel_rfl) (by kernel_rfl) (fun _ _ _ h => h) (Or.inl ⟨by rfl, fun w hw => by go_simp⟩) s4 ?_
              try simp only [Act.put, List.setIfInBounds_toArray, List.set_cons_zero, List.set_cons_succ]
              refine takeC (i := 6) (.slice (KA r) (ks r).length (KC r)) rfl (by kernel_rfl) (by kernel_rfl) (by kernel_rfl) (fun _ _ _ h => h) (Or.inl ⟨by rfl, fun w hw => by go_simp⟩) s4 ?_
              try simp only [Act.put, List.setIfInBounds_toArray, List.set_cons_zero, List.set_cons_succ]
              refine takeC (i := 7) (.int .i64 r) rfl (by kernel_rfl) (by kernel_rfl) (by kernel_rfl) (fun _ _ _ h => h) (Or.inl ⟨by rfl, fun w hw => by go_simp⟩) s4 ?_
              try simp only [Act.put, List.setIfInBounds_toArray, List.set_cons_zero, List.set_cons_succ]
              refine takeC (i := 8) (.pointer (some ⟨wo.heap.size, r, none⟩)) rfl (by kernel_rfl) (by kernel_rfl) (by kernel_rfl) (fun _ _ _ h => h) (Or.inl ⟨by rfl, fun w hw => by go_simp⟩) s4 ?_
              try simp only [Act.put, List.setIfInBounds_toArray, List.set_cons_zero, List.set_cons_succ]
              refine takeC (i := 9) (.slice Av (ts r).length cv) rfl (by kernel_rfl) (by kernel_rfl) (by kernel_rfl) (fun _ _ _ h => h) (Or.inl ⟨by rfl, fun w hw => by go_simp⟩) s4 ?_
              try simp only [Act.put, List.setIfInBounds_toArray, List.set_cons_zero, List.set_cons_succ]
              refine consC (i := 3) rfl (by kernel_rfl) (fun K hK => ?_)
              go_simp
              go_at_call 37
              have hS := macsum_any w5 (ps r) (bs r) (ks r) (ts r) (HT.out.frm' (HF1.out.trans' HF5.out)) (HI5.out.each r hr3) (by omega)
              rw [HMT.out] at hS
              refine hS.mono ?_
              rintro _ w6 ⟨rfl, hf⟩
              have HG6 := Lib.hid (hf)
              have s6 := And.intro (hf.cell_some s4.1 (fun h => h)) (And.intro (hf.cell_some s4.2.1 (fun h => h)) (hf.cell_some s4.2.2 (fun h => h)))
              clear hf hS
              try dsimp only
              refine hK.out _ _ s6 (fun hHeld => ?_)
              clear hK K
              try simp only [Act.put, List.setIfInBounds_toArray, List.set_cons_zero, List.set_cons_succ]
              refine consC (i := 10) rfl (by kernel_rfl) (fun K hK => ?_)
              go_simp
              go_at_call 38
              have hot := HX5.out.each r hr3
              rw [HV.out] at hot
              have hS := rmac_n w6 (KA r) Av (ks r) (ts r) (ks r).length (ts r).length (KC r) cv rfl rfl (HKRR.out.frm' (HF1.out.trans' (HF5.out.trans' HG6.out))) ((Rd.of_own hot).frm' HG6.out) (by unfold JLen; omega) (by omega)
              rw [HMT.out] at hS
              refine hS.mono ?_
              rintro _ w7 ⟨rfl, hf⟩
              have HG7 := Lib.hid (HG6.out.trans' hf)
              have s7 := And.intro (hf.cell_some s6.1 (fun h => h)) (And.intro (hf.cell_some s6.2.1 (fun h => h)) (hf.cell_some s6.2.2 (fun h => h)))
              clear hf hS hot
              try dsimp only
              refine hK.out _ _ s7 (fun hHeld => ?_)
              clear hK K
              try simp only [Act.put, List.setIfInBounds_toArray, List.set_cons_zero, List.set_cons_succ]
              refine takeC (i := 11) (.bool false) rfl (by kernel_rfl) (by kernel_rfl) (by kernel_rfl) (fun _ _ _ h => h) (Or.inl ⟨by rfl, fun w hw => by go_simp⟩) s7 ?_
              try simp only [Act.put, List.setIfInBounds_toArray, List.set_cons_zero, List.set_cons_succ]
              refine takeC (i := 12) (.bool false) rfl (by kernel_rfl) (by kernel_rfl) (by kernel_rfl) (fun _ _ _ h => h) (Or.inl ⟨by rfl, fun w hw => by go_simp⟩) s7 ?_
              try simp only [Act.put, List.setIfInBounds_toArray, List.set_cons_zero, List.set_cons_succ]
              refine takeC (i := 13) (.int .i64 r) rfl (by kernel_rfl) (by kernel_rfl) (by kernel_rfl) (fun _ _ _ h => h) (Or.inl ⟨by rfl, fun w hw => by go_simp⟩) s7 ?_
              try simp only [Act.put, List.setIfInBounds_toArray, List.set_cons_zero, List.set_cons_succ]
              refine takeC (i := 14) (.pointer (some ⟨w1.heap.size, r, none⟩)) rfl (by kernel_rfl) (by kernel_rfl) (by kernel_rfl) (fun _ _ _ h => h) (Or.inl ⟨by rfl, fun w hw => by go_simp⟩) s7 ?_
              try simp only [Act.put, List.setIfInBounds_toArray, List.set_cons_zero, List.set_cons_succ]
              refine takeC (i := 15) (.pointer (some ⟨ps r, 0, none⟩)) rfl (by kernel_rfl) (by kernel_rfl) (by kernel_rfl) (fun _ _ _ h => h) (Or.inl ⟨by rfl, fun w hw => by go_simp⟩) s7 ?_
              try simp only [Act.put, List.setIfInBounds_toArray, List.set_cons_zero, List.set_cons_succ]
              refine takeC (i := 17) (.int .i64 r) rfl (by kernel_rfl) (by kernel_rfl) (by kernel_rfl) (fun _ _ _ h => h) (Or.inl ⟨by rfl, fun w hw => by go_simp⟩) s7 ?_
              try simp only [Act.put, List.setIfInBounds_toArray, List.set_cons_zero, List.set_cons_succ]
              refine takeC (i := 18) (.pointer (some ⟨w.heap.size, r, none⟩)) rfl (by kernel_rfl) (by kernel_rfl) (by kernel_rfl) (fun _ _ _ h => h) (Or.inl ⟨by rfl, fun w hw => by go_simp⟩) s7 ?_
              try simp only [Act.put, List.setIfInBounds_toArray, List.set_cons_zero, List.set_cons_succ]
              refine takeC (i := 19) (.slice (KA r) (ks r).length (KC r)) rfl (by kernel_rfl) (by kernel_rfl) (by kernel_rfl) (fun _ _ _ h => h) (Or.inl ⟨by rfl, fun w hw => by go_simp⟩) s7 ?_
              try simp only [Act.put, List.setIfInBounds_toArray, List.set_cons_zero, List.set_cons_succ]
              refine takeC (i := 20) (.int .i64 r) rfl (by kernel_rfl) (by kernel_rfl) (by kernel_rfl) (fun _ _ _ h => h) (Or.inl ⟨by rfl, fun w hw => by go_simp⟩) s7 ?_
              try simp only [Act.put, List.setIfInBounds_toArray, List.set_cons_zero, List.set_cons_succ]
              refine takeC (i := 21) (.pointer (some ⟨wo.heap.size, r, none⟩)) rfl (by kernel_rfl) (by kernel_rfl) (by kernel_rfl) (fun _ _ _ h => h) (Or.inl ⟨by rfl, fun w hw => by go_simp⟩) s7 ?_
              try simp only [Act.put, List.setIfInBounds_toArray, List.set_cons_zero, List.set_cons_succ]
              refine takeC (i := 22) (.slice Av (ts r).length cv) rfl (by kernel_rfl) (by kernel_rfl) (by kernel_rfl) (fun _ _ _ h => h) (Or.inl ⟨by rfl, fun w hw => by go_simp⟩) s7 ?_
              try simp only [Act.put, List.setIfInBounds_toArray, List.set_cons_zero, List.set_cons_succ]
              refine consC (i := 16) rfl (by kernel_rfl) (fun K hK => ?_)
              go_simp
              go_at_call 37
              have hS := macsum_any w7 (ps r) (bs r) (ks r) (ts r) (HT.out.frm' (HF1.out.trans' (HF5.out.trans' HG7.out))) ((HI5.out.frm' HG7.out).each r hr3) (by omega)
              rw [HMT.out] at hS
              refine hS.mono ?_
              rintro _ w8 ⟨rfl, hf⟩
              have HG8 := Lib.hid (HG7.out.trans' hf)
              have s8 := And.intro (hf.cell_some s7.1 (fun h => h)) (And.intro (hf.cell_some s7.2.1 (fun h => h)) (hf.cell_some s7.2.2 (fun h => h)))
              clear hf hS
              try dsimp only
              refine hK.out _ _ s8 (fun hHeld => ?_)
              clear hK K
              try simp only [Act.put, List.setIfInBounds_toArray, List.set_cons_zero, List.set_cons_succ]
              refine consC (i := 23) rfl (by kernel_rfl) (fun K hK => ?_)
              go_simp
              go_at_call 38
              have hot := HX5.out.each r hr3
              rw [HV.out] at hot
              have hS := rmac_n w8 (KA r) Av (ks r) (ts r) (ks r).length (ts r).length (KC r) cv rfl rfl (HKRR.out.frm' (HF1.out.trans' (HF5.out.trans' HG8.out))) ((Rd.of_own hot).frm' HG8.out) (by unfold JLen; omega) (by omega)
              rw [HMT.out] at hS
              refine hS.mono ?_
              rintro _ w9 ⟨rfl, hf⟩
              have HG9 := Lib.hid (HG8.out.trans' hf)
              have s9 := And.intro (hf.cell_some s8.1 (fun h => h)) (And.intro (hf.cell_some s8.2.1 (fun h => h)) (hf.cell_some s8.2.2 (fun h => h)))
              clear hf hS hot
              try dsimp only
              refine hK.out _ _ s9 (fun hHeld => ?_)
              clear hK K
              try simp only [Act.put, List.setIfInBounds_toArray, List.set_cons_zero, List.set_cons_succ]
              refine takeC (i := 24) (.bool false) rfl (by kernel_rfl) (by kernel_rfl) (by kernel_rfl) (fun _ _ _ h => h) (Or.inl ⟨by rfl, fun w hw => by go_simp⟩) s9 ?_
              try simp only [Act.put, List.setIfInBounds_toArray, List.set_cons_zero, List.set_cons_succ]
              refine takeC (i := 25) (.bool false) rfl (by kernel_rfl) (by kernel_rfl) (by kernel_rfl) (fun _ _ _ h => h) (Or.inl ⟨by rfl, fun w hw => by go_simp⟩) s9 ?_
              try simp only [Act.put, List.setIfInBounds_toArray, List.set_cons_zero, List.set_cons_succ]
              refine wpAnyH_done (by kernel_rfl) ?_ _
              go_wp2_with fail
              exact ⟨⟨r + 1, by omega, by go_num, HI5.out.frm' HG9.out, HX5.out.frm' HG9.out, HF5.out.trans' HG9.out⟩, by simp [intOf]; omega⟩
            · have e : r = 3 := by omega
              subst e
              rw [show ((3 : Nat) : Int) = 3 from rfl]
              go_wp2_with fail
              refine (works04 wr (HT.out.frm' (HF1.out.trans' HF4.out))).mono ?_
              rintro _ w9 ⟨rfl, hf⟩
              try dsimp only
              go_wp2_with fail
              go_ret
              exact ⟨rfl, HF1.out.trans' (HF4.out.trans' hf)⟩
end Go.Proofs.YtkhakddecmgejaaDoor
