/-
  TalkNew: talk.New.
-/
import Derived.Test.YtnpdhgfmoofknaaTake
import Derived.Test.YtnpdhgfmoofknaaCode
namespace Go.Proofs.Ytnpdhgfmoofknaa
open Go.RowKit
open Go.BigFrame
set_option linter.unusedVariables false
set_option linter.unusedSimpArgs false

/-- the pages that so many requests need -/
def needN (m t n : Nat) : Nat := pgs (padN n) (t / (26 + m)) + pgs n (t / 32)
def Cfg.need (c : Cfg) (n : Int) : Nat := needN c.message.toNat c.text.toNat n.toNat
/-- what New answers -/
def tErr (c : Cfg) (n : Int) (pages text : Nat) : Int :=
  if ¬ c.good then 200 else if n < 0 ∨ (text : Int) ≠ c.text then 2 else if c.batch < n then 252 else if pages < c.need n then 5 else 0

set_option maxRecDepth 100000 in
theorem intake_build (b m k t x y n : Nat) (r : Int) : ∃ C : Array Value, (∀ w, (Instr.build 86 #[(0, .agg #[.int .i64 b, .int .i64 m, .int .i64 k, .int .i64 t, .int .i64 x, .int .i64 y]), (1, zK), (2, .int .u64 1), (3, .int .i64 n), (6, .int .i64 r)]).run Try.prog w = .ok (.agg C) w) ∧ C.size = 46 ∧ C[40]? = some (.int .i64 0) ∧ C[43]? = some (.pointer none) ∧ C[44]? = some (.pointer none) ∧ C[45]? = some .nilFunc := by
  unfold zK
  exact ⟨#[.int .i64 b, .int .i64 m, .int .i64 k, .int .i64 t, .int .i64 x, .int .i64 y, .int .u8 0, .int .u8 0, .int .u8 0, .int .u8 0, .int .u8 0, .int .u8 0, .int .u8 0, .int .u8 0, .int .u8 0, .int .u8 0, .int .u8 0, .int .u8 0, .int .u8 0, .int .u8 0, .int .u8 0, .int .u8 0, .int .u8 0, .int .u8 0, .int .u8 0, .int .u8 0, .int .u8 0, .int .u8 0, .int .u8 0, .int .u8 0, .int .u8 0, .int .u8 0, .int .u8 0, .int .u8 0, .int .u8 0, .int .u8 0, .int .u8 0, .int .u8 0, .int .u64 1, .int .i64 n, .int .i64 0, .bool false, .int .i64 r, .pointer none, .pointer none, .nilFunc], fun w => by kernel_rfl, rfl, rfl, rfl, rfl, rfl⟩
theorem wpList_build5 {P : Program} {ops : Array Oper} {rest : List Oper} {o : Oper} {a : Act} {w : World} {Q : Exit → Act → World → Prop} (hg : o.guard = none) (t : TypeId) (i0 i1 i2 i3 i4 : Nat) (x0 x1 x2 x3 x4 : Operand) (ho : o.op = .build t #[(i0, x0), (i1, x1), (i2, x2), (i3, x3), (i4, x4)]) (v0 v1 v2 v3 v4 : Value) (h0 : a.eval x0 = v0) (h1 : a.eval x1 = v1) (h2 : a.eval x2 = v2) (h3 : a.eval x3 = v3) (h4 : a.eval x4 = v4) (cs : Array Value)
    (hrun : (Instr.build t #[(i0, v0), (i1, v1), (i2, v2), (i3, v3), (i4, v4)]).run P w = .ok (.agg cs) w) (h : wpList P ops Q rest (a.put o.dst (.agg cs)) w) : wpList P ops Q (o :: rest) a w :=
  wpList_buildV hg t _ ho _ (by simp only [List.map_toArray, List.map_cons, List.map_nil, h0, h1, h2, h3, h4]) cs hrun h
theorem run_store_func {P : Program} (w : World) (a : Addr) (m : Mode) (f : Fn) (g : Array Value) (c : Array Value) : (store a (.func f g c) m).run P w = stored P w a (.func f g c) m := run_store P w a _ m rfl
/-- what New hands back -/
def TalkIs (w : World) (a : Int) (v : Value) : Prop := (a ≠ 0 ∧ v = .pointer none) ∨ (a = 0 ∧ ∃ tb ib, v = .pointer (some ⟨tb, 0, none⟩) ∧ w.cell? ⟨tb, 0, none⟩ = some (.pointer (some ⟨ib, 0, none⟩)) ∧ w.cell? ⟨ib, 40, none⟩ = some (.int .i64 0))
set_option maxRecDepth 100000 in
set_option maxHeartbeats 400000 in
theorem talknew_any (q pages text : Nat) (c : Cfg) (n : Int) (w : World) (hc : c.fits) (hn : i64 n) (hp : pages ≤ 600) (ht : text ≤ 4096) (c35 : w.cell? ⟨q, 35, none⟩ = some (.int .i64 pages)) (c36 : w.cell? ⟨q, 36, none⟩ = some (.int .i64 text)) :
    Calls Try.prog 9 #[.pointer (some ⟨q, 0, none⟩), c.val, zK, .int .u64 1, .int .i64 n] w fun e w' => ∃ v, e = .returned (.tuple #[v, .int .i64 (tErr c n pages text)]) ∧ Frm noB w w' ∧ TalkIs w' (tErr c n pages text) v := by
  obtain ⟨ks, hK, hKs⟩ := zK_list
  have CK := Lib.hid fun w => check_any c w hc
  by_cases hg : c.good
  · obtain ⟨b, m, k, t, x, y, rfl⟩ := Cfg.nats hg
    obtain ⟨a, ha⟩ : ∃ a, a = tErr ⟨b, m, k, t, x, y⟩ n pages text := ⟨_, rfl⟩
    rw [← ha, hK]
    unfold tErr at ha
    rw [if_neg (not_not_intro hg)] at ha
    simp only [Cfg.need, Int.toNat_natCast] at ha
    rw [Cfg.err_good hg] at CK
    have RQ := Lib.hid fun w => reqsize_any ⟨b, m, k, t, x, y⟩ w hg
    have CP := Lib.hid fun n hn w => cpages_any b m k t x y n w hg hn
    have hg2 := hg
    obtain ⟨h1, h2, h3, h4, h5, h6⟩ := hg2
    simp only at h1 h2 h3 h4 h5 h6
    change Calls Try.prog 9 #[.pointer (some ⟨q, 0, none⟩), .agg #[.int .i64 b, .int .i64 m, .int .i64 k, .int .i64 t, .int .i64 x, .int .i64 y], .agg ks.toArray, .int .u64 1, .int .i64 n] w _
    have hB0 : Blk (w.alloc (.cells #[.int .i64 b, .int .i64 m, .int .i64 k, .int .i64 t, .int .i64 x, .int .i64 y] 23)) w.heap.size 23 #[.int .i64 b, .int .i64 m, .int .i64 k, .int .i64 t, .int .i64 x, .int .i64 y] := Blk.new _ _ _
    have hs : (w.alloc (.cells #[.int .i64 b, .int .i64 m, .int .i64 k, .int .i64 t, .int .i64 x, .int .i64 y] 23)).heap.size = w.heap.size + 1 := by simp
    have hK0 : Blk ((w.alloc (.cells #[.int .i64 b, .int .i64 m, .int .i64 k, .int .i64 t, .int .i64 x, .int .i64 y] 23)).alloc (.cells ks.toArray 38)) (w.heap.size + 1) 38 ks.toArray := by rw [← hs]; exact Blk.new _ _ _
    have hB1 := hB0.frm' ((Frm.refl noB _).alloc (.cells ks.toArray 38))
    have hf0 : Frm noB w ((w.alloc (.cells #[.int .i64 b, .int .i64 m, .int .i64 k, .int .i64 t, .int .i64 x, .int .i64 y] 23)).alloc (.cells ks.toArray 38)) := ((Frm.refl _ _).alloc _).alloc _
    have HA := Lib.hid ha
    have HG := Lib.hid hg
    clear hB0 hs ha hg
    go_enter Try.func9, Try.ntmps9
    go_wp2_with fail
    generalize ((w.alloc (.cells #[.int .i64 b, .int .i64 m, .int .i64 k, .int .i64 t, .int .i64 x, .int .i64 y] 23)).alloc (.cells ks.toArray 38)) = w1 at *
    refine (CK.out w1).mono ?_
    rintro _ w2 ⟨rfl, hf⟩
    have HF2 := Lib.hid (hf0.trans' hf)
    have HB2 := Lib.hid (hB1.frm' hf)
    have HK2 := Lib.hid (hK0.frm' hf)
    have p35 := HF2.out.cell_some c35 (fun h => h)
    have p36 := HF2.out.cell_some c36 (fun h => h)
    have c0 := HB2.out.cell 0
    have c1 := HB2.out.cell 1
    have c3 := HB2.out.cell 3
    clear hf hf0 hB1 hK0 c35 c36
    try dsimp only
    go_upto_region 5 with fail
    by_cases n0 : n < 0
    · have ha : a = 2 := by rw [HA.out, if_pos (.inl n0)]
      subst ha
      go_quiet (fail)
      go_wp2_with fail
      go_ret2
      exact ⟨_, rfl, HF2.out.drewN _, .inl ⟨by omega, rfl⟩⟩
    · obtain ⟨N, rfl⟩ : ∃ N : Nat, n = N := ⟨n.toNat, by omega⟩
      have hd0 : decide ((N : Int) < 0) = false := decide_eq_false n0
      by_cases htt : text = t
      · subst htt
        go_quiet ((go_at_call 15; refine Calls.mono (ptext q text _ ?_) ?_; exact p36; exact fun _ _ h => ⟨h.1, _, h.2.symm⟩))
        have HFq := Lib.hid (HF2.out.trans' (Frm.of_drewN noB w2 nq))
        have HBq := Lib.hid (HB2.out.drewN nq)
        have HKq := Lib.hid (HK2.out.drewN nq)
        have r35 : (w2.drewN nq).cell? ⟨q, 35, none⟩ = some (.int .i64 pages) := p35
        have r36 : (w2.drewN nq).cell? ⟨q, 36, none⟩ = some (.int .i64 text) := p36
        clear p35 p36 c0 c1 c3 HF2 HB2 HK2
        generalize w2.drewN nq = w3 at *
        have c0 := HBq.out.cell 0
        have c1 := HBq.out.cell 1
        have c2 := HBq.out.cell 2
        have c3 := HBq.out.cell 3
        have c4 := HBq.out.cell 4
        have c5 := HBq.out.cell 5
        by_cases hnb : (b : Int) < N
        · have ha : a = 252 := by rw [HA.out, if_neg (by simp), if_pos hnb]
          subst ha
          go_wp2_with fail
          go_ret2
          exact ⟨_, rfl, HFq.out, .inl ⟨by omega, rfl⟩⟩
        · have hNb : N ≤ b := by omega
          have ha2 : a = if pages < needN m text N then 5 else 0 := by rw [HA.out, if_neg (by simp), if_neg hnb]; rfl
          have HA2 := Lib.hid ha2
          have HP := Lib.hid fun w => CP.out N hNb w
          clear HA ha2
          have hdn : pgs (padN N) (text / (26 + m)) + pgs N (text / 32) = needN m text N := rfl
          rw [hdn] at HP
          have hN2 : N ≤ 256 := by omega
          have hpn := padN_le N hN2
          have q1 : pgs (padN N) (text / (26 + m)) ≤ 257 := by
            unfold pgs
            have := Nat.div_le_self (padN N) (text / (26 + m))
            split <;> omega
          have q2 : pgs N (text / 32) ≤ 257 := by
            unfold pgs
            have := Nat.div_le_self N (text / 32)
            split <;> omega
          have hnd : needN m text N ≤ 514 := by rw [← hdn]; omega
          have HD := Lib.hid hdn
          have HQ := Lib.hid (And.intro hpn (And.intro q1 q2))
          clear hdn hpn q1 q2
          generalize hz : needN m text N = z at *
          clear hz
          go_upto_region 9 with fail
          go_wp2_with fail
          refine (HP.out w3).mono ?_
          rintro _ w4 ⟨rfl, hf⟩
          have HF4 := Lib.hid (HFq.out.trans' hf)
          have HB4 := Lib.hid (HBq.out.frm' hf)
          have HK4 := Lib.hid (HKq.out.frm' hf)
          have s35 := hf.cell_some r35 (fun h => h)
          have s36 := hf.cell_some r36 (fun h => h)
          clear hf HFq HBq HKq r35 r36 c0 c1 c2 c3 c4 c5
          try dsimp only
          by_cases hsp : pages < z
          · have ha : a = 5 := by rw [HA2.out, if_pos hsp]
            subst ha
            go_wp2_with (go_at_call 17; refine (ppages q pages _ s35).mono ?_; rintro _ _ ⟨rfl, rfl⟩)
            go_ret2
            exact ⟨_, rfl, HF4.out, .inl ⟨by omega, rfl⟩⟩
          · have ha : a = 0 := by rw [HA2.out, if_neg hsp]
            subst ha
            go_upto_region 12 with (go_at_call 17; refine (ppages q pages _ s35).mono ?_; rintro _ _ ⟨rfl, rfl⟩)
            have c0 := HB4.out.cell 0
            have c1 := HB4.out.cell 1
            have c2 := HB4.out.cell 2
            have c3 := HB4.out.cell 3
            have c4 := HB4.out.cell 4
            have c5 := HB4.out.cell 5
            go_wp2_with fail
            refine (RQ.out w4).mono ?_
            rintro _ w5 ⟨rfl, hf⟩
            have HF5 := Lib.hid (HF4.out.trans' hf)
            have HB5 := Lib.hid (HB4.out.frm' hf)
            have HK5 := Lib.hid (HK4.out.frm' hf)
            have t35 := hf.cell_some s35 (fun h => h)
            have t36 := hf.cell_some s36 (fun h => h)
            clear hf HF4 HB4 HK4 s35 s36 c0 c1 c2 c3 c4 c5 CK RQ CP HP HA2
            have c1 := HB5.out.cell 1
            have c3 := HB5.out.cell 3
            have PP1 := Lib.hid fun w => spages_any (padN N) (26 + m) text w HQ.out.1 (by omega) (by omega) (by omega)
            rw [show ((26 + m : Nat) : Int) = 26 + (m : Int) by omega] at PP1
            have PN := Lib.hid fun w => npad_any N w hN2
            have hsz := HD.out
            have SN1 := Lib.hid fun (w : World) (e1 : w.cell? ⟨q, 35, none⟩ = some (.int .i64 pages)) (e2 : w.cell? ⟨q, 36, none⟩ = some (.int .i64 text)) => snew q 0 (padN N) (26 + m) text pages w HQ.out.1 (by omega) (by omega) (by omega) (by omega) (by omega) e1 e2
            have SN2 := Lib.hid fun (w : World) (e1 : w.cell? ⟨q, 35, none⟩ = some (.int .i64 pages)) (e2 : w.cell? ⟨q, 36, none⟩ = some (.int .i64 text)) => snew q (pgs (padN N) (text / (26 + m))) N 32 text pages w hN2 (by omega) (by omega) (by omega) (by omega) (by omega) e1 e2
            rw [show ((26 + m : Nat) : Int) = 26 + (m : Int) by omega, show ((0 : Nat) : Int) = 0 from rfl] at SN1
            rw [show ((32 : Nat) : Int) = 32 from rfl] at SN2
            clear hsz HD HQ
            generalize pgs (padN N) (text / (26 + m)) = z1 at *
            generalize padN N = pn at *
            try dsimp only
            go_upto_region 14 with fail
            refine wp_region_quiet_lit (by kernel_rfl) (by kernel_rfl) ?_
            repeat (go_big_quiet_step ((first | (go_at_call 20; exact (PN.out _).mono fun _ _ h => ⟨h.1, _, h.2.symm⟩) | (go_at_call 19; exact (PP1.out _).mono fun _ _ h => ⟨h.1, _, h.2.symm⟩))))
            refine wpQuiet_nil ?_
            intro _ hw'
            obtain ⟨nq, hw''⟩ := hw'
            subst hw''
            have HF6 := Lib.hid (HF5.out.trans' (Frm.of_drewN noB w5 nq))
            have HB6 := Lib.hid (HB5.out.drewN nq)
            have HK6 := Lib.hid (HK5.out.drewN nq)
            have s35 : (w5.drewN nq).cell? ⟨q, 35, none⟩ = some (.int .i64 pages) := t35
            have s36 : (w5.drewN nq).cell? ⟨q, 36, none⟩ = some (.int .i64 text) := t36
            clear t35 t36 c1 c3 HF5 HB5 HK5
            generalize w5.drewN nq = w6 at *
            have c0 := HB6.out.cell 0
            have c1 := HB6.out.cell 1
            have c2 := HB6.out.cell 2
            have c3 := HB6.out.cell 3
            have c4 := HB6.out.cell 4
            have c5 := HB6.out.cell 5
            obtain ⟨R, hR⟩ : ∃ R : Int, R = 16 + (m : Int) := ⟨_, rfl⟩
            obtain ⟨C, hC, hCs, e40, e43, e44, e45⟩ := intake_build b m k text x y N (wrap64 (R + 48))
            rw [← hR]
            clear hR
            have HC := Lib.hid hC
            have HCE := Lib.hid (And.intro hCs (And.intro e40 (And.intro e43 (And.intro e44 e45))))
            clear hC hCs e40 e43 e44 e45
            rw [hK] at HC
            have HKS : Hid ((Try.prog.info? 38).map (·.size) = some ks.toArray.size) := Lib.hid (by rw [List.size_toArray, hKs]; kernel_rfl)
            go_upto_region 15 with fail
            have hI : Blk (w6.alloc (.cells C 86)) w6.heap.size 86 C := Blk.new _ _ _
            have i45 := (hI.cell 45).trans HCE.out.2.2.2.2
            have j45 := hI.frozen 45
            have HI := Lib.hid hI
            have hsf := @run_store_func Try.prog
            clear hI
            go_wp2_with (first | (refine wpList_load_row rfl _ _ rfl (w.heap.size + 1) rfl 38 _ (0, 0) _ HK6.out Try.underlying38 rfl HKS.out ?_) | (refine wpList_build5 rfl 86 0 1 2 3 6 (.tmp 73) (.tmp 74) (.tmp 75) (.tmp 76) (.tmp 78) rfl (.agg #[.int .i64 b, .int .i64 m, .int .i64 k, .int .i64 text, .int .i64 x, .int .i64 y]) (.agg ks.toArray) (.int .u64 1) (.int .i64 N) (.int .i64 (wrap64 (R + 48))) rfl rfl rfl rfl rfl C (HC.out _) ?_))
            refine (PN.out _).mono ?_
            rintro _ w7 ⟨rfl, hw7⟩
            obtain ⟨D, hI, f40, f43, f44⟩ : ∃ D, Blk w7 w6.heap.size 86 D ∧ D[40]? = some (.int .i64 0) ∧ D[43]? = some (.pointer none) ∧ D[44]? = some (.pointer none) := by
              subst hw7
              refine ⟨_, Blk.new _ _ _, ?_, ?_, ?_⟩
              · rw [Array.getElem?_setIfInBounds_ne (by decide)]; exact HCE.out.2.1
              · rw [Array.getElem?_setIfInBounds_ne (by decide)]; exact HCE.out.2.2.1
              · rw [Array.getElem?_setIfInBounds_ne (by decide)]; exact HCE.out.2.2.2.1
            have F7 : Hid (Frm noB w6 w7) := by
              subst hw7
              exact Lib.hid ((Frm.refl _ _).alloc _)
            have r35 := F7.out.cell_some s35 (fun h => h)
            have r36 := F7.out.cell_some s36 (fun h => h)
            clear hw7 i45 j45 hsf c0 c1 c2 c3 c4 c5 HC HCE HI HKS HB6 HK6 PN PP1
            have HID := Lib.hid hI
            clear hI
            try dsimp only
            go_wp2_with fail
            refine (SN1.out w7 r35 r36).mono ?_
            rintro _ w8 ⟨b1, rfl, hf8⟩
            have F8 := Lib.hid (F7.out.trans' hf8)
            have HI8 := Lib.hid (HID.out.frm' hf8)
            have i43 := (HI8.out.cell 43).trans f43
            have j43 := HI8.out.frozen 43
            clear hf8 HID F7 r35 r36 SN1
            try dsimp only
            go_wp2_with fail
            have F8b := Lib.hid (F8.out.setCell (a := ⟨w6.heap.size, 43, none⟩) (.inr (Nat.le_refl _)) (.pointer (some ⟨b1, 0, none⟩)))
            have HI8b := Lib.hid (HI8.out.set_ 43 (.pointer (some ⟨b1, 0, none⟩)))
            have r35 := F8b.out.cell_some s35 (fun h => h)
            have r36 := F8b.out.cell_some s36 (fun h => h)
            clear i43 j43 F8 HI8
            refine (SN2.out _ r35 r36).mono ?_
            rintro _ w9 ⟨b2, rfl, hf9⟩
            have F9 := Lib.hid (F8b.out.trans' hf9)
            have HI9 := Lib.hid (HI8b.out.frm' hf9)
            clear hf9 r35 r36 F8b HI8b SN2
            have i44 := (HI9.out.cell 44).trans ((Array.getElem?_setIfInBounds_ne (by decide)).trans f44)
            have j44 := HI9.out.frozen 44
            try dsimp only
            go_wp2_with fail
            go_ret2
            have F10 := F9.out.setCell (a := ⟨w6.heap.size, 44, none⟩) (.inr (Nat.le_refl _)) (.pointer (some ⟨b2, 0, none⟩))
            have HI10 := HI9.out.set_ 44 (.pointer (some ⟨b2, 0, none⟩))
            have hz : (w9.setCell ⟨w6.heap.size, 44, none⟩ (.pointer (some ⟨b2, 0, none⟩))).heap.size = w9.heap.size := by simp [World.setCell]
            refine ⟨_, rfl, HF6.out.trans' (F10.alloc _), .inr ⟨rfl, w9.heap.size, w6.heap.size, rfl, by rw [← hz]; exact (Blk.new _ _ _).cell 0, ((HI10.alloc _).cell 40).trans ?_⟩⟩
            rw [Array.getElem?_setIfInBounds_ne (by decide), Array.getElem?_setIfInBounds_ne (by decide)]
            exact f40
      · have ha : a = 2 := by rw [HA.out, if_pos (.inr (by omega))]
        subst ha
        go_quiet ((go_at_call 15; refine Calls.mono (ptext q text _ ?_) ?_; exact p36; exact fun _ _ h => ⟨h.1, _, h.2.symm⟩))
        go_wp2_with fail
        go_ret2
        exact ⟨_, rfl, HF2.out.drewN _, .inl ⟨by omega, rfl⟩⟩
  · have he : tErr c n pages text = 200 := if_pos hg
    have her : c.err = 200 := if_neg hg
    rw [he]
    rw [her] at CK
    rw [hK]
    clear hg he her hc hn c35 c36
    obtain ⟨x1, x2, x3, x4, x5, x6⟩ := c
    change Calls Try.prog 9 #[.pointer (some ⟨q, 0, none⟩), .agg #[.int .i64 x1, .int .i64 x2, .int .i64 x3, .int .i64 x4, .int .i64 x5, .int .i64 x6], .agg ks.toArray, .int .u64 1, .int .i64 n] w _
    have hf0 : Frm noB w ((w.alloc (.cells #[.int .i64 x1, .int .i64 x2, .int .i64 x3, .int .i64 x4, .int .i64 x5, .int .i64 x6] 23)).alloc (.cells ks.toArray 38)) := ((Frm.refl _ _).alloc _).alloc _
    have HF := Lib.hid hf0
    clear hf0
    go_enter Try.func9, Try.ntmps9
    go_wp2_with fail
    generalize ((w.alloc (.cells #[.int .i64 x1, .int .i64 x2, .int .i64 x3, .int .i64 x4, .int .i64 x5, .int .i64 x6] 23)).alloc (.cells ks.toArray 38)) = w1 at *
    refine (CK.out w1).mono ?_
    rintro _ w2 ⟨rfl, hf⟩
    have HF2 := Lib.hid (HF.out.trans' hf)
    clear hf
    try dsimp only
    go_wp2_with fail
    go_ret2
    exact ⟨_, rfl, HF2.out, .inl ⟨by omega, rfl⟩⟩
end Go.Proofs.Ytnpdhgfmoofknaa
