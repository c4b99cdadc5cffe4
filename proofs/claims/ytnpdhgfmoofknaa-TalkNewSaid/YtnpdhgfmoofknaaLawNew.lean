/-
  TalkNew: the law's walk.
-/
import Derived.Test.YtnpdhgfmoofknaaRTalk
namespace Go.Proofs.Ytnpdhgfmoofknaa
open Go.RowKit
open Go.BigFrame
set_option linter.unusedVariables false
set_option linter.unusedSimpArgs false

set_option maxRecDepth 100000 in
theorem zK_build : ∃ K : Array Value, zK = .agg K ∧ K.size = 32 ∧ ∀ w, (Instr.build 38 #[]).run Try.prog w = .ok (.agg K) w := ⟨_, rfl, rfl, fun w => by kernel_rfl⟩
set_option maxRecDepth 100000 in
set_option maxHeartbeats 400000 in
theorem talknew_nil (c : Cfg) (n : Int) (w : World) :
    Calls Try.prog 9 #[.pointer none, c.val, zK, .int .u64 1, .int .i64 n] w fun e w' => e = .returned (.tuple #[.pointer none, .int .i64 1]) ∧ Frm noB w w' := by
  obtain ⟨ks, hK, hKs⟩ := zK_list
  rw [hK]
  obtain ⟨x1, x2, x3, x4, x5, x6⟩ := c
  change Calls Try.prog 9 #[.pointer none, .agg #[.int .i64 x1, .int .i64 x2, .int .i64 x3, .int .i64 x4, .int .i64 x5, .int .i64 x6], .agg ks.toArray, .int .u64 1, .int .i64 n] w _
  have hf0 : Frm noB w ((w.alloc (.cells #[.int .i64 x1, .int .i64 x2, .int .i64 x3, .int .i64 x4, .int .i64 x5, .int .i64 x6] 23)).alloc (.cells ks.toArray 38)) := ((Frm.refl _ _).alloc _).alloc _
  have HF := Lib.hid hf0
  clear hf0 hK hKs
  go_enter Try.func9, Try.ntmps9
  go_wp2_with fail
  go_ret2
  exact ⟨rfl, HF.out⟩
theorem intakefed (b : Nat) (w : World) (c : w.cell? ⟨b, 40, none⟩ = some (.int .i64 0)) : Calls Try.prog 29 #[.pointer (some ⟨b, 0, none⟩)] w fun e w' => e = .returned (.int .i64 0) ∧ w = w' := by
  go_enter Try.func29, Try.ntmps29
  go_wp2
  go_ret
  exact ⟨rfl, rfl⟩
theorem talkfed (t b : Nat) (w : World) (c0 : w.cell? ⟨t, 0, none⟩ = some (.pointer (some ⟨b, 0, none⟩))) (c : w.cell? ⟨b, 40, none⟩ = some (.int .i64 0)) : Calls Try.prog 13 #[.pointer (some ⟨t, 0, none⟩)] w fun e w' => e = .returned (.int .i64 0) ∧ w = w' := by
  go_enter Try.func13, Try.ntmps13
  go_wp2_with fail
  refine (intakefed b w c).mono ?_
  rintro _ _ ⟨rfl, rfl⟩
  try dsimp only
  go_wp2_with fail
  go_ret
  exact ⟨rfl, rfl⟩
theorem TalkIs.frm {w w' : World} {a : Int} {v : Value} (h : TalkIs w a v) (hf : Frm noB w w') : TalkIs w' a v := by
  rcases h with h | ⟨h, tb, ib, e, c1, c2⟩
  · exact .inl h
  · exact .inr ⟨h, tb, ib, e, hf.cell_some c1 (fun h => h), hf.cell_some c2 (fun h => h)⟩
theorem i64_wrap64 (x : Int) : i64 (wrap64 x) := by
  unfold i64 wrap64
  omega
theorem i64_wrap (x : Int) : i64 (IntKind.i64.wrap x) := by
  have h := wrap_within .i64 x
  have h1 : IntKind.i64.min = -9223372036854775808 := rfl
  have h2 : IntKind.i64.max = 9223372036854775807 := rfl
  unfold i64
  omega
set_option maxRecDepth 100000 in
set_option maxHeartbeats 400000 in
theorem talkNew_any (P T x1 x2 x3 x4 x5 x6 n : Int) (w : World) (hP : i64 P) (hc : Cfg.fits ⟨x1, x2, x3, x4, x5, x6⟩) (hn : i64 n) :
    Calls Try.prog 3 #[.agg #[.int .i64 P, .int .i64 T, .int .i64 x1, .int .i64 x2, .int .i64 x3, .int .i64 x4, .int .i64 x5, .int .i64 x6, .int .i64 n]] w fun e w' => e = .returned (.bool true) ∧ Frm noB w w' := by
  obtain ⟨K, hK, hKs, hKb⟩ := zK_build
  have PGN := Lib.hid pagernew
  have RPN := Lib.hid rpagernew
  have TN := Lib.hid talknew_any
  have RTN := Lib.hid rtalknew_any
  have TNN := Lib.hid talknew_nil
  rw [hK] at PGN RPN TN RTN TNN
  have HKB := Lib.hid hKb
  have hf0 : Frm noB w (w.alloc (.cells #[.int .i64 P, .int .i64 T, .int .i64 x1, .int .i64 x2, .int .i64 x3, .int .i64 x4, .int .i64 x5, .int .i64 x6, .int .i64 n] 25)) := (Frm.refl _ _).alloc _
  have hB0 : Blk (w.alloc (.cells #[.int .i64 P, .int .i64 T, .int .i64 x1, .int .i64 x2, .int .i64 x3, .int .i64 x4, .int .i64 x5, .int .i64 x6, .int .i64 n] 25)) w.heap.size 25 #[.int .i64 P, .int .i64 T, .int .i64 x1, .int .i64 x2, .int .i64 x3, .int .i64 x4, .int .i64 x5, .int .i64 x6, .int .i64 n] := Blk.new _ _ _
  have HF0 := Lib.hid hf0
  have HB := Lib.hid hB0
  have c0 := hB0.cell 0
  have c1 := hB0.cell 1
  have HP := Lib.hid hP
  have HC := Lib.hid hc
  have HN := Lib.hid hn
  clear hK hKs hKb hf0 hB0 hP hc hn
  go_enter Try.func3, Try.ntmps3
  go_upto_region 1 with fail
  generalize w.alloc (.cells #[.int .i64 P, .int .i64 T, .int .i64 x1, .int .i64 x2, .int .i64 x3, .int .i64 x4, .int .i64 x5, .int .i64 x6, .int .i64 n] 25) = w1 at *
  go_wp2_with fail
  refine (within_any P 601 w1 HP.out (by omega)).mono ?_
  rintro _ _ ⟨r, rfl, r0, r1, rfl⟩
  try dsimp only
  obtain ⟨p, rfl⟩ : ∃ p : Nat, r = p := ⟨r.toNat, by omega⟩
  have hp : p ≤ 600 := by omega
  go_wp2_with fail
  refine (within_any (wrap64 (T - 1)) 4096 w1 (i64_wrap64 _) (by omega)).mono ?_
  rintro _ _ ⟨r, rfl, s0, s1, rfl⟩
  try dsimp only
  obtain ⟨t, ht⟩ : ∃ t : Nat, (t : Int) = r + 1 := ⟨(r + 1).toNat, by omega⟩
  have ht1 : 1 ≤ t := by omega
  have ht2 : t ≤ 4096 := by omega
  go_upto_region 3 with fail
  rw [show 29 + r = ((t + 28 : Nat) : Int) by omega]
  have ht3 : (t : Int) = r + 1 := ht
  have h36 : ((t + 28 : Nat) : Int) - 28 = t := by omega
  obtain ⟨s, hs⟩ : ∃ s : Nat, s = t + 28 := ⟨_, rfl⟩
  rw [← hs] at h36 ⊢
  have hs1 : 29 ≤ s := by omega
  have hs2 : s ≤ 4124 := by omega
  have H36 := Lib.hid h36
  have HS := Lib.hid (And.intro hs1 (And.intro hs2 ht2))
  clear h36 hs hs1 hs2 ht1 ht2 c0 c1
  go_wp2_with fail
  refine (hostnew p s w1 (by omega) (by have := HS.out; omega) HS.out.2.1).mono ?_
  rintro _ w2 ⟨h, rfl, hf, a0, a1, a6⟩
  have HF2 := Lib.hid (HF0.out.trans' hf)
  have HB2 := Lib.hid (HB.out.frm' hf)
  have HA2 := Lib.hid (And.intro a0 (And.intro a1 a6))
  clear hf HF0 HB a0 a1 a6
  try dsimp only
  go_wp2_with fail
  refine (rhostnew p s w2 (by omega) (by have := HS.out; omega) HS.out.2.1).mono ?_
  rintro _ w3 ⟨g, rfl, hf, a0, a1⟩
  have HF3 := Lib.hid (HF2.out.trans' hf)
  have HB3 := Lib.hid (HB2.out.frm' hf)
  have HA3 := Lib.hid (And.intro (hf.cell_some HA2.out.1 (fun h => h)) (And.intro (hf.cell_some HA2.out.2.1 (fun h => h)) (hf.cell_some HA2.out.2.2 (fun h => h))))
  have HG3 := Lib.hid (And.intro a0 a1)
  clear hf HF2 HB2 HA2 a0 a1
  try dsimp only
  go_wp2_with (first | (refine wpList_buildV rfl 38 #[] rfl #[] (by simp) K (HKB.out _) ?_))
  refine (PGN.out h p s w3 (by omega) HS.out.1 HS.out.2.1 HA3.out.1 HA3.out.2.1).mono ?_
  rintro _ w4 ⟨q, rfl, hf, a35, a36, a38⟩
  rw [H36.out] at a36
  have HF4 := Lib.hid (HF3.out.trans' hf)
  have HB4 := Lib.hid (HB3.out.frm' hf)
  have HA4 := Lib.hid (hf.cell_some HA3.out.2.2 (fun h => h))
  have HG4 := Lib.hid (And.intro (hf.cell_some HG3.out.1 (fun h => h)) (hf.cell_some HG3.out.2 (fun h => h)))
  have HQ4 := Lib.hid (And.intro a35 (And.intro a36 a38))
  clear hf HF3 HB3 HA3 HG3 a35 a36 a38
  try dsimp only
  go_wp2_with (first | (refine wpList_buildV rfl 38 #[] rfl #[] (by simp) K (HKB.out _) ?_))
  refine (RPN.out g p s w4 (by omega) HS.out.1 HS.out.2.1 HG4.out.1 HG4.out.2).mono ?_
  rintro _ w5 ⟨rq, rfl, hf, a35, a36⟩
  rw [H36.out] at a36
  have HF5 := Lib.hid (HF4.out.trans' hf)
  have HB5 := Lib.hid (HB4.out.frm' hf)
  have HA5 := Lib.hid (hf.cell_some HA4.out (fun h => h))
  have HQ5 := Lib.hid (And.intro (hf.cell_some HQ4.out.1 (fun h => h)) (And.intro (hf.cell_some HQ4.out.2.1 (fun h => h)) (hf.cell_some HQ4.out.2.2 (fun h => h))))
  have HR5 := Lib.hid (And.intro a35 a36)
  have b2 := HB5.out.cell 2
  have b3 := HB5.out.cell 3
  have b4 := HB5.out.cell 4
  have b5 := HB5.out.cell 5
  have b6 := HB5.out.cell 6
  have b7 := HB5.out.cell 7
  have b8 := HB5.out.cell 8
  clear hf HF4 HB4 HA4 HG4 HQ4 a35 a36
  try dsimp only
  go_wp2_with (first | (refine wpList_buildV rfl 38 #[] rfl #[] (by simp) K (HKB.out _) ?_))
  have TN1 := TN.out q p t ⟨x1, x2, x3, x4, x5, x6⟩ n w5 HC.out HN.out (by omega) HS.out.2.2 HQ5.out.1 HQ5.out.2.1
  have RT1 := fun w e1 e2 => RTN.out rq p t ⟨x1, x2, x3, x4, x5, x6⟩ n w HC.out HN.out (by omega) HS.out.2.2 e1 e2
  generalize tErr ⟨x1, x2, x3, x4, x5, x6⟩ n p t = a at TN1 RT1
  have RT := Lib.hid RT1
  clear RT1 TN RTN PGN RPN
  refine TN1.mono ?_
  clear TN1
  rintro _ w6 ⟨v, rfl, hf, hv⟩
  have HF6 := Lib.hid (HF5.out.trans' hf)
  have HB6 := Lib.hid (HB5.out.frm' hf)
  have HA6 := Lib.hid (hf.cell_some HA5.out (fun h => h))
  have HQ6 := Lib.hid (hf.cell_some HQ5.out.2.2 (fun h => h))
  have HR6 := Lib.hid (And.intro (hf.cell_some HR5.out.1 (fun h => h)) (hf.cell_some HR5.out.2 (fun h => h)))
  have HV6 := Lib.hid hv
  clear hf hv HF5 HB5 HA5 HQ5 HR5 b2 b3 b4 b5 b6 b7 b8
  have b2 := HB6.out.cell 2
  have b3 := HB6.out.cell 3
  have b4 := HB6.out.cell 4
  have b5 := HB6.out.cell 5
  have b6 := HB6.out.cell 6
  have b7 := HB6.out.cell 7
  have b8 := HB6.out.cell 8
  try dsimp only
  go_wp2_with (first | (refine wpList_buildV rfl 38 #[] rfl #[] (by simp) K (HKB.out _) ?_))
  refine (RT.out w6 HR6.out.1 HR6.out.2).mono ?_
  rintro _ w7 ⟨u, rfl, hf, hu⟩
  have HF7 := Lib.hid (HF6.out.trans' hf)
  have HB7 := Lib.hid (HB6.out.frm' hf)
  have HA7 := Lib.hid (hf.cell_some HA6.out (fun h => h))
  have HQ7 := Lib.hid (hf.cell_some HQ6.out (fun h => h))
  have HV7 := Lib.hid (HV6.out.frm hf)
  have HU := Lib.hid hu
  clear hf hu HF6 HB6 HA6 HQ6 HR6 HV6 RT b2 b3 b4 b5 b6 b7 b8
  have b2 := HB7.out.cell 2
  have b3 := HB7.out.cell 3
  have b4 := HB7.out.cell 4
  have b5 := HB7.out.cell 5
  have b6 := HB7.out.cell 6
  have b7 := HB7.out.cell 7
  have b8 := HB7.out.cell 8
  try dsimp only
  go_wp2_with (first | (refine wpList_buildV rfl 38 #[] rfl #[] (by simp) K (HKB.out _) ?_))
  refine (TNN.out ⟨x1, x2, x3, x4, x5, x6⟩ n w7).mono ?_
  rintro _ w8 ⟨rfl, hf⟩
  have HF8 := Lib.hid (HF7.out.trans' hf)
  have HA8 := Lib.hid (hf.cell_some HA7.out (fun h => h))
  have HQ8 := Lib.hid (hf.cell_some HQ7.out (fun h => h))
  have HV8 := Lib.hid (HV7.out.frm hf)
  clear hf HF7 HB7 HA7 HQ7 HV7 b2 b3 b4 b5 b6 b7 b8 TNN
  try dsimp only
  rcases HV8.out with ⟨ha, rfl⟩ | ⟨rfl, tb, ib, rfl, z0, z1⟩
  · rcases HU.out with ⟨_, rfl⟩ | ⟨h0, _⟩
    · go_wp2_with (first | (go_at_call 11; refine (hlog h w8 HA8.out).mono ?_; rintro _ _ ⟨rfl, rfl⟩) | (go_at_call 12; refine (pheld q w8 HQ8.out).mono ?_; rintro _ _ ⟨rfl, rfl⟩))
      go_ret
      exact ⟨rfl, HF8.out⟩
    · exact absurd h0 ha
  · rcases HU.out with ⟨h0, _⟩ | ⟨_, ub, rfl⟩
    · exact absurd rfl h0
    · go_wp2_with (first | (go_at_call 11; refine (hlog h w8 HA8.out).mono ?_; rintro _ _ ⟨rfl, rfl⟩) | (go_at_call 12; refine (pheld q w8 HQ8.out).mono ?_; rintro _ _ ⟨rfl, rfl⟩) | (go_at_call 13; refine (talkfed tb ib w8 z0 z1).mono ?_; rintro _ _ ⟨rfl, rfl⟩))
      go_ret
      exact ⟨rfl, HF8.out⟩
end Go.Proofs.Ytnpdhgfmoofknaa
