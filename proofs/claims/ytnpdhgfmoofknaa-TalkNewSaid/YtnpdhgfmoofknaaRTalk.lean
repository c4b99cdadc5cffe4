/-
  TalkNew: trystref23.New.
-/
import Derived.Test.YtnpdhgfmoofknaaTalk
namespace Go.Proofs.Ytnpdhgfmoofknaa
open Go.RowKit
open Go.BigFrame
set_option linter.unusedVariables false
set_option linter.unusedSimpArgs false

set_option maxRecDepth 100000 in
theorem rtalk_build (b m k t x y n : Nat) (p1 p2 : Nat) : ∃ C : Array Value, (∀ w, (Instr.build 99 #[(0, .agg #[.int .i64 b, .int .i64 m, .int .i64 k, .int .i64 t, .int .i64 x, .int .i64 y]), (1, zK), (2, .int .u64 1), (3, .int .i64 n), (6, .pointer (some ⟨p1, 0, none⟩)), (7, .pointer (some ⟨p2, 0, none⟩))]).run Try.prog w = .ok (.agg C) w) := by
  unfold zK
  exact ⟨#[.int .i64 b, .int .i64 m, .int .i64 k, .int .i64 t, .int .i64 x, .int .i64 y, .int .u8 0, .int .u8 0, .int .u8 0, .int .u8 0, .int .u8 0, .int .u8 0, .int .u8 0, .int .u8 0, .int .u8 0, .int .u8 0, .int .u8 0, .int .u8 0, .int .u8 0, .int .u8 0, .int .u8 0, .int .u8 0, .int .u8 0, .int .u8 0, .int .u8 0, .int .u8 0, .int .u8 0, .int .u8 0, .int .u8 0, .int .u8 0, .int .u8 0, .int .u8 0, .int .u8 0, .int .u8 0, .int .u8 0, .int .u8 0, .int .u8 0, .int .u8 0, .int .u64 1, .int .i64 n, .int .i64 0, .bool false, .pointer (some ⟨p1, 0, none⟩), .pointer (some ⟨p2, 0, none⟩)], fun w => by kernel_rfl⟩
theorem wpList_build6 {P : Program} {ops : Array Oper} {rest : List Oper} {o : Oper} {a : Act} {w : World} {Q : Exit → Act → World → Prop} (hg : o.guard = none) (t : TypeId) (i0 i1 i2 i3 i4 i5 : Nat) (x0 x1 x2 x3 x4 x5 : Operand) (ho : o.op = .build t #[(i0, x0), (i1, x1), (i2, x2), (i3, x3), (i4, x4), (i5, x5)]) (v0 v1 v2 v3 v4 v5 : Value) (h0 : a.eval x0 = v0) (h1 : a.eval x1 = v1) (h2 : a.eval x2 = v2) (h3 : a.eval x3 = v3) (h4 : a.eval x4 = v4) (h5 : a.eval x5 = v5) (cs : Array Value)
    (hrun : (Instr.build t #[(i0, v0), (i1, v1), (i2, v2), (i3, v3), (i4, v4), (i5, v5)]).run P w = .ok (.agg cs) w) (h : wpList P ops Q rest (a.put o.dst (.agg cs)) w) : wpList P ops Q (o :: rest) a w :=
  wpList_buildV hg t _ ho _ (by simp only [List.map_toArray, List.map_cons, List.map_nil, h0, h1, h2, h3, h4, h5]) cs hrun h
theorem int_lt_add {a b c : Nat} (h : a < b + c) : (a : Int) < (b : Int) + c := by omega
theorem int_nlt_add {a b c : Nat} (h : ¬ a < b + c) : ¬ (a : Int) < (b : Int) + c := by omega
theorem sum_le {a b c : Nat} (h : ¬ a < b + c) : b ≤ a ∧ b + c ≤ a := by omega
/-- what the document's New hands back -/
def RTalkIs (a : Int) (v : Value) : Prop := (a ≠ 0 ∧ v = .pointer none) ∨ (a = 0 ∧ ∃ tb, v = .pointer (some ⟨tb, 0, none⟩))
set_option maxRecDepth 100000 in
set_option maxHeartbeats 400000 in
theorem rtalknew_any (q pages text : Nat) (c : Cfg) (n : Int) (w : World) (hc : c.fits) (hn : i64 n) (hp : pages ≤ 600) (ht : text ≤ 4096) (c35 : w.cell? ⟨q, 35, none⟩ = some (.int .i64 pages)) (c36 : w.cell? ⟨q, 36, none⟩ = some (.int .i64 text)) :
    Calls Try.prog 10 #[.pointer (some ⟨q, 0, none⟩), c.val, zK, .int .u64 1, .int .i64 n] w fun e w' => ∃ v, e = .returned (.tuple #[v, .int .i64 (tErr c n pages text)]) ∧ Frm noB w w' ∧ RTalkIs (tErr c n pages text) v := by
  obtain ⟨ks, hK, hKs⟩ := zK_list
  have CK := Lib.hid fun w => rcheck_any c w hc
  by_cases hg : c.good
  · obtain ⟨b, m, k, t, x, y, rfl⟩ := Cfg.nats hg
    obtain ⟨a, ha⟩ : ∃ a, a = tErr ⟨b, m, k, t, x, y⟩ n pages text := ⟨_, rfl⟩
    rw [← ha, hK]
    unfold tErr at ha
    rw [if_neg (not_not_intro hg)] at ha
    simp only [Cfg.need, Int.toNat_natCast] at ha
    rw [Cfg.err_good hg] at CK
    have hg2 := hg
    obtain ⟨h1, h2, h3, h4, h5, h6⟩ := hg2
    simp only at h1 h2 h3 h4 h5 h6
    change Calls Try.prog 10 #[.pointer (some ⟨q, 0, none⟩), .agg #[.int .i64 b, .int .i64 m, .int .i64 k, .int .i64 t, .int .i64 x, .int .i64 y], .agg ks.toArray, .int .u64 1, .int .i64 n] w _
    have hB0 : Blk (w.alloc (.cells #[.int .i64 b, .int .i64 m, .int .i64 k, .int .i64 t, .int .i64 x, .int .i64 y] 23)) w.heap.size 23 #[.int .i64 b, .int .i64 m, .int .i64 k, .int .i64 t, .int .i64 x, .int .i64 y] := Blk.new _ _ _
    have hs : (w.alloc (.cells #[.int .i64 b, .int .i64 m, .int .i64 k, .int .i64 t, .int .i64 x, .int .i64 y] 23)).heap.size = w.heap.size + 1 := by simp
    have hK0 : Blk ((w.alloc (.cells #[.int .i64 b, .int .i64 m, .int .i64 k, .int .i64 t, .int .i64 x, .int .i64 y] 23)).alloc (.cells ks.toArray 38)) (w.heap.size + 1) 38 ks.toArray := by rw [← hs]; exact Blk.new _ _ _
    have hB1 := hB0.frm' ((Frm.refl noB _).alloc (.cells ks.toArray 38))
    have hf0 : Frm noB w ((w.alloc (.cells #[.int .i64 b, .int .i64 m, .int .i64 k, .int .i64 t, .int .i64 x, .int .i64 y] 23)).alloc (.cells ks.toArray 38)) := ((Frm.refl _ _).alloc _).alloc _
    have HA := Lib.hid ha
    clear hB0 hs ha hg
    go_enter Try.func10, Try.ntmps10
    go_wp2_with fail
    generalize ((w.alloc (.cells #[.int .i64 b, .int .i64 m, .int .i64 k, .int .i64 t, .int .i64 x, .int .i64 y] 23)).alloc (.cells ks.toArray 38)) = w1 at *
    refine (CK.out w1).mono ?_
    rintro _ w2 ⟨rfl, hf⟩
    have HF2 := Lib.hid (hf0.trans' hf)
    have HB2 := Lib.hid (hB1.frm' hf)
    have HK2 := Lib.hid (hK0.frm' hf)
    have p35 := HF2.out.cell_some c35 (fun h => h)
    have p36 := HF2.out.cell_some c36 (fun h => h)
    have c3 := HB2.out.cell 3
    clear hf hf0 hB1 hK0 c35 c36 CK
    try dsimp only
    go_upto_region 5 with fail
    by_cases n0 : n < 0
    · have ha : a = 2 := by rw [HA.out, if_pos (.inl n0)]
      subst ha
      go_quiet (fail)
      go_wp2_with fail
      go_ret2
      exact ⟨_, rfl, HF2.out.drewN _, .inl ⟨by omega, rfl⟩⟩
    · obtain ⟨N, rfl⟩ : ∃ N : Nat, n = N := ⟨n.toNat, by omega⟩
      have hd0 : decide ((N : Int) < 0) = false := decide_eq_false n0
      by_cases htt : text = t
      · subst htt
        go_quiet (fail)
        have HFq := Lib.hid (HF2.out.trans' (Frm.of_drewN noB w2 nq))
        have HBq := Lib.hid (HB2.out.drewN nq)
        have HKq := Lib.hid (HK2.out.drewN nq)
        have r35 : (w2.drewN nq).cell? ⟨q, 35, none⟩ = some (.int .i64 pages) := p35
        have r36 : (w2.drewN nq).cell? ⟨q, 36, none⟩ = some (.int .i64 text) := p36
        clear p35 p36 c3 HF2 HB2 HK2
        generalize w2.drewN nq = w3 at *
        have c0 := HBq.out.cell 0
        have c1 := HBq.out.cell 1
        have c2 := HBq.out.cell 2
        have c3 := HBq.out.cell 3
        have c4 := HBq.out.cell 4
        have c5 := HBq.out.cell 5
        by_cases hnb : (b : Int) < N
        · have ha : a = 252 := by rw [HA.out, if_neg (by simp), if_pos hnb]
          subst ha
          go_wp2_with fail
          go_ret2
          exact ⟨_, rfl, HFq.out, .inl ⟨by omega, rfl⟩⟩
        · have hNb : N ≤ b := by omega
          have ha2 : a = if pages < needN m text N then 5 else 0 := by rw [HA.out, if_neg (by simp), if_neg hnb]; rfl
          have HA2 := Lib.hid ha2
          clear HA ha2
          have hdn : pgs (padN N) (text / (26 + m)) + pgs N (text / 32) = needN m text N := rfl
          rw [← hdn] at HA2
          have hN2 : N ≤ 256 := by omega
          have hpn := padN_le N hN2
          have q1 : pgs (padN N) (text / (26 + m)) ≤ 257 := by
            unfold pgs
            have := Nat.div_le_self (padN N) (text / (26 + m))
            split <;> omega
          have q2 : pgs N (text / 32) ≤ 257 := by
            unfold pgs
            have := Nat.div_le_self N (text / 32)
            split <;> omega
          have HPD := Lib.hid fun w => rpad_any N w hN2
          have PG1 := Lib.hid fun w => rpages_any (padN N) (26 + m) text w hpn (by omega) (by omega) (by omega)
          have PG2 := Lib.hid fun w => rpages_any N 32 text w hN2 (by omega) (by omega) (by omega)
          have SN1 := Lib.hid fun (hs : pgs (padN N) (text / (26 + m)) ≤ pages) (w : World) (e1 : w.cell? ⟨q, 35, none⟩ = some (.int .i64 pages)) (e2 : w.cell? ⟨q, 36, none⟩ = some (.int .i64 text)) => rsnew q 0 (padN N) (26 + m) text pages w hpn (by omega) (by omega) (by omega) (by omega) (by omega) e1 e2
          have SN2 := Lib.hid fun (hs : pgs (padN N) (text / (26 + m)) + pgs N (text / 32) ≤ pages) (w : World) (e1 : w.cell? ⟨q, 35, none⟩ = some (.int .i64 pages)) (e2 : w.cell? ⟨q, 36, none⟩ = some (.int .i64 text)) => rsnew q (pgs (padN N) (text / (26 + m))) N 32 text pages w hN2 (by omega) (by omega) (by omega) (by omega) (by omega) e1 e2
          rw [show ((26 + m : Nat) : Int) = 26 + (m : Int) by omega] at PG1
          rw [show ((26 + m : Nat) : Int) = 26 + (m : Int) by omega, show ((0 : Nat) : Int) = 0 from rfl] at SN1
          rw [show ((32 : Nat) : Int) = 32 from rfl] at SN2 PG2
          clear hdn
          generalize pgs (padN N) (text / (26 + m)) = z1 at *
          generalize pgs N (text / 32) = z2 at *
          generalize padN N = pn at *
          go_wp2_with fail
          refine (HPD.out w3).mono ?_
          rintro _ _ ⟨rfl, rfl⟩
          try dsimp only
          go_wp2_with fail
          refine (PG1.out w3).mono ?_
          rintro _ _ ⟨rfl, rfl⟩
          try dsimp only
          go_wp2_with fail
          refine (PG2.out w3).mono ?_
          rintro _ _ ⟨rfl, rfl⟩
          try dsimp only
          clear HPD PG1 PG2
          by_cases hsp : pages < z1 + z2
          · have ha : a = 5 := by rw [HA2.out, if_pos hsp]
            subst ha
            have hsi := int_lt_add hsp
            go_wp2_with fail
            go_ret2
            exact ⟨_, rfl, HFq.out, .inl ⟨by omega, rfl⟩⟩
          · have ha : a = 0 := by rw [HA2.out, if_neg hsp]
            subst ha
            have hsi := int_nlt_add hsp
            go_wp2_with fail
            refine (SN1.out (sum_le hsp).1 w3 r35 r36).mono ?_
            rintro _ w4 ⟨b1, rfl, hf⟩
            have HF4 := Lib.hid (HFq.out.trans' hf)
            have HB4 := Lib.hid (HBq.out.frm' hf)
            have HK4 := Lib.hid (HKq.out.frm' hf)
            have s35 := hf.cell_some r35 (fun h => h)
            have s36 := hf.cell_some r36 (fun h => h)
            clear hf HFq HBq HKq r35 r36 c0 c1 c2 c3 c4 c5 SN1
            try dsimp only
            go_wp2_with fail
            refine (SN2.out (sum_le hsp).2 w4 s35 s36).mono ?_
            rintro _ w5 ⟨b2, rfl, hf⟩
            have HF5 := Lib.hid (HF4.out.trans' hf)
            have HB5 := Lib.hid (HB4.out.frm' hf)
            have HK5 := Lib.hid (HK4.out.frm' hf)
            clear hf HF4 HB4 HK4 s35 s36 SN2
            try dsimp only
            have c0 := HB5.out.cell 0
            have c1 := HB5.out.cell 1
            have c2 := HB5.out.cell 2
            have c3 := HB5.out.cell 3
            have c4 := HB5.out.cell 4
            have c5 := HB5.out.cell 5
            obtain ⟨C, hC⟩ := rtalk_build b m k text x y N b1 b2
            have HC := Lib.hid hC
            clear hC
            rw [hK] at HC
            have HKS : Hid ((Try.prog.info? 38).map (·.size) = some ks.toArray.size) := Lib.hid (by rw [List.size_toArray, hKs]; kernel_rfl)
            go_wp2_with (first | (refine wpList_load_row rfl _ _ rfl (w.heap.size + 1) rfl 38 _ (0, 0) _ HK5.out Try.underlying38 rfl HKS.out ?_) | (refine wpList_build6 rfl 99 0 1 2 3 6 7 _ _ _ _ _ _ rfl (.agg #[.int .i64 b, .int .i64 m, .int .i64 k, .int .i64 text, .int .i64 x, .int .i64 y]) (.agg ks.toArray) (.int .u64 1) (.int .i64 N) (.pointer (some ⟨b1, 0, none⟩)) (.pointer (some ⟨b2, 0, none⟩)) rfl rfl rfl rfl rfl rfl C (HC.out _) ?_))
            go_ret2
            exact ⟨_, rfl, HF5.out.alloc _, .inr ⟨rfl, _, rfl⟩⟩
      · have ha : a = 2 := by rw [HA.out, if_pos (.inr (by omega))]
        subst ha
        go_quiet (fail)
        go_wp2_with fail
        go_ret2
        exact ⟨_, rfl, HF2.out.drewN _, .inl ⟨by omega, rfl⟩⟩
  · have he : tErr c n pages text = 200 := if_pos hg
    have her : c.err = 200 := if_neg hg
    rw [he]
    rw [her] at CK
    rw [hK]
    clear hg he her hc hn c35 c36
    obtain ⟨x1, x2, x3, x4, x5, x6⟩ := c
    change Calls Try.prog 10 #[.pointer (some ⟨q, 0, none⟩), .agg #[.int .i64 x1, .int .i64 x2, .int .i64 x3, .int .i64 x4, .int .i64 x5, .int .i64 x6], .agg ks.toArray, .int .u64 1, .int .i64 n] w _
    have hf0 : Frm noB w ((w.alloc (.cells #[.int .i64 x1, .int .i64 x2, .int .i64 x3, .int .i64 x4, .int .i64 x5, .int .i64 x6] 23)).alloc (.cells ks.toArray 38)) := ((Frm.refl _ _).alloc _).alloc _
    have HF := Lib.hid hf0
    clear hf0
    go_enter Try.func10, Try.ntmps10
    go_wp2_with fail
    generalize ((w.alloc (.cells #[.int .i64 x1, .int .i64 x2, .int .i64 x3, .int .i64 x4, .int .i64 x5, .int .i64 x6] 23)).alloc (.cells ks.toArray 38)) = w1 at *
    refine (CK.out w1).mono ?_
    rintro _ w2 ⟨rfl, hf⟩
    have HF2 := Lib.hid (HF.out.trans' hf)
    clear hf
    try dsimp only
    go_wp2_with fail
    go_ret2
    exact ⟨_, rfl, HF2.out, .inl ⟨by omega, rfl⟩⟩
end Go.Proofs.Ytnpdhgfmoofknaa
