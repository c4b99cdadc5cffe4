/-
  TalkNew: codec.measure, RequestSize, Pages.
-/
import Derived.Test.YtnpdhgfmoofknaaSlots
namespace Go.Proofs.Ytnpdhgfmoofknaa
open Go.RowKit
open Go.BigFrame
set_option linter.unusedVariables false
set_option linter.unusedSimpArgs false

theorem results_row_tmp {P : Program} {fn : Func} {p u : Tmp} {ty : TypeId} (h : fn.results = #[.cell p ty, .tmp u]) (tmps : Array Value) (w : World) (g : Nat) (t : TypeId) (cs : Array Value) (fr : Nat × Nat) (d : TypeDesc)
    (hp : tmps.getD p undef = .pointer (some ⟨g, 0, none⟩)) (hg : w.heap[g]? = some (.cells cs t fr))
    (hu : P.underlying ty = some d) (hd : (match d with | .struct _ | .array _ _ => true | _ => false) = true) (hi : (P.info? ty).map (·.size) = some cs.size) :
    (results fn tmps).run P w = .ok (.tuple #[.agg cs, tmps.getD u undef]) w := by
  have hp' : tmps[p]?.getD undef = .pointer (some ⟨g, 0, none⟩) := by simpa using hp
  simp [results, h, hp', asAddr, Sem.run_bind, Result.andThen, run_loadVar_row w g t ty cs fr d hg hu hd hi]
theorem Cfg.err_good {c : Cfg} (h : c.good) : c.err = 0 := if_pos h
theorem Cfg.good_fits {c : Cfg} (h : c.good) : c.fits := by
  obtain ⟨h1, h2, h3, h4, h5, h6⟩ := h
  unfold Cfg.fits i64
  omega
set_option maxRecDepth 100000 in
set_option maxHeartbeats 1000000 in
theorem measure_any (c : Cfg) (w : World) (hg : c.good) : Calls Try.prog 31 #[c.val, .int .i64 1] w fun e w' => e = .returned (.tuple #[.agg #[.int .i64 (16 + c.message), .int .i64 (1 + c.message), .int .i64 (26 + c.message)], .int .i64 0]) ∧ Frm noB w w' := by
  have hck := fun w => check_any c w (Cfg.good_fits hg)
  rw [Cfg.err_good hg] at hck
  obtain ⟨h1, h2, h3, h4, h5, h6⟩ := hg
  obtain ⟨x1, x2, x3, x4, x5, x6⟩ := c
  simp only at h1 h2 h3 h4 h5 h6
  have CK := Lib.hid hck
  obtain ⟨m1, m2⟩ := h2
  clear hck h1 h3 h4 h5 h6
  change Calls Try.prog 31 #[.agg #[.int .i64 x1, .int .i64 x2, .int .i64 x3, .int .i64 x4, .int .i64 x5, .int .i64 x6], .int .i64 1] w _
  have hf0 : Frm noB w ((w.alloc (.cells #[.int .i64 x1, .int .i64 x2, .int .i64 x3, .int .i64 x4, .int .i64 x5, .int .i64 x6] 23)).alloc (.cells #[.int .i64 0, .int .i64 0, .int .i64 0] 103)) := ((Frm.refl _ _).alloc _).alloc _
  have hB : Blk (w.alloc (.cells #[.int .i64 x1, .int .i64 x2, .int .i64 x3, .int .i64 x4, .int .i64 x5, .int .i64 x6] 23)) w.heap.size 23 #[.int .i64 x1, .int .i64 x2, .int .i64 x3, .int .i64 x4, .int .i64 x5, .int .i64 x6] := Blk.new _ _ _
  go_enter Try.func31, Try.ntmps31
  go_wp2_with fail
  have hs : (w.alloc (.cells #[.int .i64 x1, .int .i64 x2, .int .i64 x3, .int .i64 x4, .int .i64 x5, .int .i64 x6] 23)).heap.size = w.heap.size + 1 := by simp
  have hZ : Blk ((w.alloc (.cells #[.int .i64 x1, .int .i64 x2, .int .i64 x3, .int .i64 x4, .int .i64 x5, .int .i64 x6] 23)).alloc (.cells #[.int .i64 0, .int .i64 0, .int .i64 0] 103)) (w.heap.size + 1) 103 #[.int .i64 0, .int .i64 0, .int .i64 0] := by rw [← hs]; exact Blk.new _ _ _
  have hB' := hB.frm' ((Frm.refl noB _).alloc (.cells #[.int .i64 0, .int .i64 0, .int .i64 0] 103))
  generalize ((w.alloc (.cells #[.int .i64 x1, .int .i64 x2, .int .i64 x3, .int .i64 x4, .int .i64 x5, .int .i64 x6] 23)).alloc (.cells #[.int .i64 0, .int .i64 0, .int .i64 0] 103)) = w1 at *
  refine (CK.out w1).mono ?_
  rintro _ w2 ⟨rfl, hf⟩
  have b2 := hB'.frm' hf
  have z2 := hZ.frm' hf
  have c1 := b2.cell 1
  have z0 := z2.cell 0
  have z1 := z2.cell 1
  have z2c := z2.cell 2
  have e0 := z2.frozen 0
  have e1 := z2.frozen 1
  have e2 := z2.frozen 2
  have HF := Lib.hid (hf0.trans' hf)
  have hr1 : wrap64 (16 + x2) = 16 + x2 := by unfold wrap64; omega
  have hr2 : wrap64 (1 + x2) = 1 + x2 := by unfold wrap64; omega
  have hr3 : wrap64 (26 + x2) = 26 + x2 := by unfold wrap64; omega
  have HZ : Hid (Blk (((w2.setCell ⟨w.heap.size + 1, 0, none⟩ (.int .i64 (16 + x2))).setCell ⟨w.heap.size + 1, 1, none⟩ (.int .i64 (1 + x2))).setCell ⟨w.heap.size + 1, 2, none⟩ (.int .i64 (26 + x2))) (w.heap.size + 1) 103 #[.int .i64 (16 + x2), .int .i64 (1 + x2), .int .i64 (26 + x2)]) := Lib.hid (((z2.set_ 0 _).set_ 1 _).set_ 2 _)
  clear hs hZ hB hB' hf b2 z2 hf0
  try dsimp only
  go_wp2_with fail
  try simp only [Exit.inBlock, Exit.then]
  refine bodyPost_ret (results_row_tmp rfl _ _ (w.heap.size + 1) 103 _ (0, 0) _ rfl HZ.out Try.underlying103 rfl (by kernel_rfl)) rfl ?_
  exact ⟨rfl, ((HF.out.setCell (a := ⟨w.heap.size + 1, 0, none⟩) (.inr (Nat.le_succ _)) _).setCell (a := ⟨w.heap.size + 1, 1, none⟩) (.inr (Nat.le_succ _)) _).setCell (a := ⟨w.heap.size + 1, 2, none⟩) (.inr (Nat.le_succ _)) _⟩
set_option maxRecDepth 100000 in
set_option maxHeartbeats 1000000 in
theorem reqsize_any (c : Cfg) (w : World) (hg : c.good) : Calls Try.prog 18 #[c.val, .int .i64 1] w fun e w' => e = .returned (.tuple #[.int .i64 (16 + c.message), .int .i64 0]) ∧ Frm noB w w' := by
  have MS := Lib.hid fun w => measure_any c w hg
  clear hg
  obtain ⟨x1, x2, x3, x4, x5, x6⟩ := c
  change Calls Try.prog 18 #[.agg #[.int .i64 x1, .int .i64 x2, .int .i64 x3, .int .i64 x4, .int .i64 x5, .int .i64 x6], .int .i64 1] w _
  have hf0 : Frm noB w (w.alloc (.cells #[.int .i64 x1, .int .i64 x2, .int .i64 x3, .int .i64 x4, .int .i64 x5, .int .i64 x6] 23)) := (Frm.refl _ _).alloc _
  go_enter Try.func18, Try.ntmps18
  go_wp2_with fail
  generalize (w.alloc (.cells #[.int .i64 x1, .int .i64 x2, .int .i64 x3, .int .i64 x4, .int .i64 x5, .int .i64 x6] 23)) = w1 at *
  refine (MS.out w1).mono ?_
  rintro _ w2 ⟨rfl, hf⟩
  have HF := Lib.hid (hf0.trans' hf)
  clear hf hf0
  try dsimp only
  go_wp2_with fail
  go_ret2
  exact ⟨rfl, HF.out.alloc _⟩
/-- a good config, in plain numbers -/
theorem Cfg.nats {c : Cfg} (h : c.good) : ∃ b m k t x y : Nat, c = ⟨b, m, k, t, x, y⟩ := by
  obtain ⟨x1, x2, x3, x4, x5, x6⟩ := c
  obtain ⟨h1, h2, h3, h4, h5, h6⟩ := h
  simp only at h1 h2 h3 h4 h5 h6
  exact ⟨x1.toNat, x2.toNat, x3.toNat, x4.toNat, x5.toNat, x6.toNat, by congr 1 <;> omega⟩
set_option maxRecDepth 100000 in
set_option maxHeartbeats 1000000 in
theorem cpages_any (b m k t x y n : Nat) (w : World) (hg : (⟨b, m, k, t, x, y⟩ : Cfg).good) (hn : n ≤ b) : Calls Try.prog 16 #[.agg #[.int .i64 b, .int .i64 m, .int .i64 k, .int .i64 t, .int .i64 x, .int .i64 y], .int .i64 1, .int .i64 n] w fun e w' => e = .returned (.tuple #[.int .i64 (pgs (padN n) (t / (26 + m)) + pgs n (t / 32) : Nat), .int .i64 0]) ∧ Frm noB w w' := by
  have MS := Lib.hid fun w => measure_any ⟨b, m, k, t, x, y⟩ w hg
  obtain ⟨h1, h2, h3, h4, h5, h6⟩ := hg
  simp only at h1 h2 h3 h4 h5 h6
  have hn2 : n ≤ 256 := by omega
  have hpn := padN_le n hn2
  have P1 := fun w => spages_any (padN n) (26 + m) t w hpn (by omega) (by omega) (by omega)
  have P2 := fun w => spages_any n 32 t w hn2 (by omega) (by omega) (by omega)
  have NP := fun w => npad_any n w hn2
  have q1 : pgs (padN n) (t / (26 + m)) ≤ 257 := by
    unfold pgs
    have := Nat.div_le_self (padN n) (t / (26 + m))
    split <;> omega
  have q2 : pgs n (t / 32) ≤ 257 := by
    unfold pgs
    have := Nat.div_le_self n (t / 32)
    split <;> omega
  rw [show ((26 + m : Nat) : Int) = 26 + (m : Int) by omega] at P1
  rw [show ((32 : Nat) : Int) = 32 from rfl] at P2
  have PP1 := Lib.hid P1
  have PP2 := Lib.hid P2
  have PN := Lib.hid NP
  clear P1 P2 NP h1 h2 h3 h4 h5 h6 hpn hn2
  generalize pgs (padN n) (t / (26 + m)) = z1 at *
  generalize pgs n (t / 32) = z2 at *
  generalize padN n = pn at *
  have hf0 : Frm noB w (w.alloc (.cells #[.int .i64 b, .int .i64 m, .int .i64 k, .int .i64 t, .int .i64 x, .int .i64 y] 23)) := (Frm.refl _ _).alloc _
  have hB : Blk (w.alloc (.cells #[.int .i64 b, .int .i64 m, .int .i64 k, .int .i64 t, .int .i64 x, .int .i64 y] 23)) w.heap.size 23 #[.int .i64 b, .int .i64 m, .int .i64 k, .int .i64 t, .int .i64 x, .int .i64 y] := Blk.new _ _ _
  go_enter Try.func16, Try.ntmps16
  go_wp2_with fail
  generalize (w.alloc (.cells #[.int .i64 b, .int .i64 m, .int .i64 k, .int .i64 t, .int .i64 x, .int .i64 y] 23)) = w1 at *
  refine (MS.out w1).mono ?_
  rintro _ w2 ⟨rfl, hf⟩
  obtain ⟨w3, hw3⟩ : ∃ w3 : World, w3 = w2.alloc (.cells #[.int .i64 (16 + m), .int .i64 (1 + m), .int .i64 (26 + m)] 103) := ⟨_, rfl⟩
  have hZ : Blk w3 w2.heap.size 103 #[.int .i64 (16 + m), .int .i64 (1 + m), .int .i64 (26 + m)] := by rw [hw3]; exact Blk.new _ _ _
  have hf2 : Frm noB w2 w3 := by rw [hw3]; exact (Frm.refl _ _).alloc _
  have b3 := (hB.frm' hf).frm' hf2
  have c0 := b3.cell 0
  have c3 := b3.cell 3
  have s2 := hZ.cell 2
  have HF := Lib.hid ((hf0.trans' hf).trans' hf2)
  clear hf hf0 hB hZ b3 hf2
  try dsimp only
  go_upto_region 2 with fail
  rw [← hw3]
  clear hw3
  go_upto_region 8 with fail
  refine wp_region_quiet_lit (by kernel_rfl) (by kernel_rfl) ?_
  repeat (go_big_quiet_step ((first | (go_at_call 20; exact (PN.out _).mono fun _ _ h => ⟨h.1, _, h.2.symm⟩) | (go_at_call 19; exact (PP1.out _).mono fun _ _ h => ⟨h.1, _, h.2.symm⟩))))
  refine wpQuiet_nil ?_
  intro _ hw'
  obtain ⟨nq, hw''⟩ := hw'
  subst hw''
  go_upto_region 11 with fail
  have HFq := Lib.hid (HF.out.trans' (Frm.of_drewN noB w3 nq))
  have cq : (w3.drewN nq).cell? ⟨w.heap.size, 3, none⟩ = some (.int .i64 t) := c3
  clear c0 c3 s2
  generalize w3.drewN nq = w4 at *
  go_wp2_with fail
  refine (PP2.out w4).mono ?_
  rintro _ _ ⟨rfl, rfl⟩
  try dsimp only
  go_wp2_with fail
  go_ret2
  exact ⟨by rw [Int.natCast_add]; rfl, HFq.out⟩
end Go.Proofs.Ytnpdhgfmoofknaa
