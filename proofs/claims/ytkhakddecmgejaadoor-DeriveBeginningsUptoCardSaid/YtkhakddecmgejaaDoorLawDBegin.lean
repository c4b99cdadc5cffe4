/-
  trystlaw04.DeriveBeginnings: the walk.
-/
import Derived.Test.YtkhakddecmgejaaDoorKeys
import Derived.Test.YtkhakddecmgejaaDoorWorks04b
namespace Go.Proofs.YtkhakddecmgejaaDoor
open Go.RowKit
set_option linter.unusedVariables false
set_option linter.unusedSimpArgs false

theorem oCh_take (pk info : List UInt8) (a b : Nat) (h : a ≤ b) : (oCh pk info b).take (32 * a) = oCh pk info a := by
  induction b with
  | zero =>
    have : a = 0 := by omega
    subst this; rfl
  | succ b ih =>
    by_cases e : a = b + 1
    · subst e
      rw [List.take_of_length_le (by rw [oCh_length]; omega)]
    · have hl := oCh_length pk info b
      show (oCh pk info b ++ tCh pk info (b + 1)).take (32 * a) = _
      rw [List.take_append_of_le_length (by omega), ih (by omega)]
theorem expL_take (pk info : List UInt8) {m n : Nat} (h : m ≤ n) : (expL pk info n).take m = expL pk info m := by
  unfold expL
  rw [List.take_take, Nat.min_eq_left h]
  have h1 : pcs m ≤ pcs n := by unfold pcs; omega
  rw [← oCh_take pk info (pcs m) (pcs n) h1, List.take_take, Nat.min_eq_left (by unfold pcs; omega)]

set_option maxRecDepth 100000 in
set_option maxHeartbeats 1000000 in
theorem deriveBeginnings_any (w : World) (A B C : Option Addr) (salt secret info : List UInt8) (ca cb cc : Nat) (n less : Int) (hT : TabOk w) (hx : Rd w A (salt.map bv)) (hy : Rd w B (secret.map bv)) (hz : Rd w C (info.map bv)) (hca : salt.length ≤ ca) (hcb : secret.length ≤ cb) (hcc : info.length ≤ cc) (h1 : salt.length ≤ 2000000) (h2 : secret.length ≤ 2000000) (h3 : info.length ≤ 2000000) :
    Calls Tryd.prog 14 #[.agg #[.slice A salt.length ca, .slice B secret.length cb, .slice C info.length cc, .int .i64 n], .int .i64 less] w fun r w' => r = .returned (.bool true) ∧ Frm noB w w' := by
  obtain ⟨N, hN, hNl⟩ : ∃ N : Nat, wrap64 ((IntKind.u64.wrap n).tmod 8161) = (N : Int) ∧ N ≤ 8160 := by
    have h0 : 0 ≤ (IntKind.u64.wrap n).tmod 8161 := Int.tmod_nonneg _ (u64_ge n)
    have h1 : (IntKind.u64.wrap n).tmod 8161 < 8161 := Int.tmod_lt_of_pos _ (by decide)
    refine ⟨((IntKind.u64.wrap n).tmod 8161).toNat, ?_, by omega⟩
    rw [Int.toNat_of_nonneg h0]
    unfold wrap64
    omega
  obtain ⟨M, hM, hMl⟩ : ∃ M : Nat, wrap64 ((IntKind.u64.wrap less).tmod ((N : Int) + 1)) = (M : Int) ∧ M ≤ N := by
    have h0 : 0 ≤ (IntKind.u64.wrap less).tmod ((N : Int) + 1) := Int.tmod_nonneg _ (u64_ge less)
    have h1 : (IntKind.u64.wrap less).tmod ((N : Int) + 1) < (N : Int) + 1 := Int.tmod_lt_of_pos _ (by omega)
    refine ⟨((IntKind.u64.wrap less).tmod ((N : Int) + 1)).toNat, ?_, by omega⟩
    rw [Int.toNat_of_nonneg h0]
    unfold wrap64
    omega
  obtain ⟨mp, hmp⟩ : ∃ mp, macT salt secret = mp := ⟨_, rfl⟩
  obtain ⟨xs, hxs⟩ : ∃ xs, expL (sha mp) info N = xs := ⟨_, rfl⟩
  obtain ⟨ys, hys⟩ : ∃ ys, expL (sha mp) info M = ys := ⟨_, rfl⟩
  obtain ⟨zs, hzs⟩ : ∃ zs, expL (sha mp) info (32 * (N / 32)) = zs := ⟨_, rfl⟩
  have hxl : xs.length = N := by rw [← hxs, expL_length]
  have hyl : ys.length = M := by rw [← hys, expL_length]
  have hyx : xs.take M = ys := by rw [← hxs, ← hys, expL_take _ _ hMl]
  have hzx : xs.take (32 * (N / 32)) = zs := by rw [← hxs, ← hzs, expL_take _ _ (by omega)]
  have HMP := Lib.hid hmp
  have HXS := Lib.hid hxs
  have HYS := Lib.hid hys
  have HZS := Lib.hid hzs
  have HXL := Lib.hid hxl
  have HYL := Lib.hid hyl
  have HYX := Lib.hid hyx
  have HZX := Lib.hid hzx
  have HT := Lib.hid hT
  have HX := Lib.hid hx
  have HY := Lib.hid hy
  have HZ := Lib.hid hz
  have HN := Lib.hid hN
  have HM := Lib.hid hM
  clear hT hx hy hz hmp hxs hys hzs hxl hyl hyx hzx hN hM
  go_enter Tryd.func14, Tryd.ntmps14
  go_upto_region 1 with fail
  have hdb := Blk.new w 75 #[.slice A salt.length ca, .slice B secret.length cb, .slice C info.length cc, .int .i64 n]
  have hf0 : Frm noB w (w.alloc (.cells #[.slice A salt.length ca, .slice B secret.length cb, .slice C info.length cc, .int .i64 n] 75)) := (Frm.refl _ _).alloc _
  change Code.wp _ _ _ _ (w.alloc (.cells #[.slice A salt.length ca, .slice B secret.length cb, .slice C info.length cc, .int .i64 n] 75))
  generalize w.alloc (.cells #[.slice A salt.length ca, .slice B secret.length cb, .slice C info.length cc, .int .i64 n] 75) = w1 at *
  have HF1 := Lib.hid hf0
  have HD : Hid (∀ w', Frm noB w1 w' → w'.cell? ⟨w.heap.size, 0, none⟩ = some (.slice A salt.length ca) ∧ w'.cell? ⟨w.heap.size, 1, none⟩ = some (.slice B secret.length cb) ∧ w'.cell? ⟨w.heap.size, 2, none⟩ = some (.slice C info.length cc) ∧ w'.cell? ⟨w.heap.size, 3, none⟩ = some (.int .i64 n)) := Lib.hid fun w' hf => ⟨(hdb.frm' hf).cell 0, (hdb.frm' hf).cell 1, (hdb.frm' hf).cell 2, (hdb.frm' hf).cell 3⟩
  have HA : Hid (∀ w', Frm noB w1 w' → TabOk w' ∧ Rd w' A (salt.map bv) ∧ Rd w' B (secret.map bv) ∧ Rd w' C (info.map bv)) := Lib.hid fun w' hf => ⟨HT.out.frm' (HF1.out.trans' hf), HX.out.frm' (HF1.out.trans' hf), HY.out.frm' (HF1.out.trans' hf), HZ.out.frm' (HF1.out.trans' hf)⟩
  obtain ⟨d0, d1, d2, d3⟩ := HD.out _ (Frm.refl noB w1)
  clear hdb hf0
  go_upto_region 2 with fail
  rw [HN.out]
  go_upto_region 3 with fail
  rw [HM.out]
  go_wp2_with fail
  obtain ⟨t0, t1, t2, t3⟩ := HA.out _ (Frm.refl noB w1)
  have hS := derive_any w1 A B C salt secret info ca cb cc (N : Int) mp HMP.out t0 t1 t2 t3 hca hcb hcc (by omega) (by omega) (by omega)
  rw [expW_nat _ _ hNl, wrong_nat hNl, HXS.out] at hS
  refine hS.mono ?_
  clear hS t0 t1 t2 t3 d0 d1 d2 d3
  rintro _ wa ⟨A7, c7, rfl, ho, hf⟩
  rw [HXL.out] at ho ⊢
  have hc7 : N ≤ c7 := by obtain ⟨_, _, e, h⟩ := own_slice ho; injection e with _ _ e3; omega
  have HG := Lib.hid hf
  have HO7 := Lib.hid ho
  obtain ⟨d0, d1, d2, d3⟩ := HD.out _ HG.out
  clear ho hf
  try dsimp only
  go_wp2_with fail
  obtain ⟨t0, t1, t2, t3⟩ := HA.out _ HG.out
  have hS := derive_any wa A B C salt secret info ca cb cc (M : Int) mp HMP.out t0 t1 t2 t3 hca hcb hcc (by omega) (by omega) (by omega)
  rw [expW_nat _ _ (by omega), wrong_nat (by omega), HYS.out] at hS
  refine hS.mono ?_
  clear hS t0 t1 t2 t3 d0 d1 d2 d3
  rintro _ wb ⟨A9, c9, rfl, ho, hf⟩
  rw [HYL.out] at ho ⊢
  have hc9 : M ≤ c9 := by obtain ⟨_, _, e, h⟩ := own_slice ho; injection e with _ _ e3; omega
  have HG := Lib.hid (HG.out.trans' hf)
  have HO7 := Lib.hid (own_frm' HO7.out hf)
  have HO9 := Lib.hid ho
  have hcM : M ≤ c7 := by omega
  clear ho hf
  try dsimp only
  go_wp2_with fail
  have hS := same_n A7 A9 (xs.take M) ys M M c7 c9 wb (by rw [List.length_take, HXL.out]; omega) HYL.out ((Rd.of_own HO7.out).takeB M) (Rd.of_own HO9.out) (by unfold Len; omega) (by unfold Len; omega)
  rw [eql_true HYX.out] at hS
  refine hS.mono ?_
  clear hS
  rintro _ wc ⟨rfl, hf⟩
  have HG := Lib.hid (HG.out.trans' hf)
  have HO7 := Lib.hid (own_frm' HO7.out hf)
  obtain ⟨d0, d1, d2, d3⟩ := HD.out _ HG.out
  obtain ⟨Q, hQ⟩ : ∃ Q : Nat, Q = N / 32 := ⟨_, rfl⟩
  have hQi : (N : Int) / 32 = (Q : Int) := by omega
  have hQ32 : 32 * Q ≤ N := by omega
  have hQl : Q ≤ 255 := by omega
  have HQ := Lib.hid hQ.symm
  clear hf hQ
  try dsimp only
  go_wp2_with fail
  obtain ⟨t0, t1, t2, t3⟩ := HA.out _ HG.out
  have hS := dkeys_any wc A B C salt secret info ca cb cc (Q : Int) mp HMP.out t0 t1 t2 t3 hca hcb hcc (by omega) (by omega) (by omega)
  rw [kB_nat _ _ hQl, kN_nat hQl, wrong_key hQl, ← HQ.out, HZS.out, HQ.out] at hS
  refine hS.mono ?_
  clear hS t0 t1 t2 t3 d0 d1 d2 d3
  rintro _ wd ⟨A11, c11, rfl, ho, hf⟩
  have HG := Lib.hid (HG.out.trans' hf)
  have HR7 := Lib.hid (Rd.of_own (own_frm' HO7.out hf))
  have HO11 := Lib.hid ho
  clear ho hf
  try dsimp only
  go_wp2_with fail
  go_loopw [13] (fun i wr => ∃ k j : Nat, k ≤ Q ∧ i = .int .i64 k ∧ wr = wd.drewN j) (fun i _ => Q - (intOf i).toNat)
  case atStart => exact ⟨0, 0, Nat.zero_le _, rfl, rfl⟩
  case round =>
    obtain ⟨k, j0, hk, rfl, hw⟩ := hrel
    have HW := Lib.hid hw
    by_cases hlt : k < Q
    · obtain ⟨g, hg, hrg, _⟩ := key_range HO11.out hlt
      subst hg
      have HRG := Lib.hid hrg
      clear hw hrg
      go_wp2_with fail
      go_loopw [14] (fun i wr => ∃ q j : Nat, q ≤ 32 ∧ i = .int .i64 q ∧ wr = wd.drewN j) (fun i _ => 32 - (intOf i).toNat)
      case atStart => exact ⟨0, j0, by omega, rfl, HW.out⟩
      case round =>
        clear HW
        obtain ⟨q, j, hq, rfl, hw⟩ := hrel
        have HW := Lib.hid hw
        by_cases hq32 : q < 32
        · have hi : 32 * k + q < xs.length := by rw [HXL.out]; omega
          obtain ⟨b, o, rfl, hc⟩ := HR7.out.b hi
          have hk1 : (keyL zs k).length = 32 := keyL_length (by rw [← HZX.out, List.length_take, HXL.out, HQ.out]; omega)
          have hkq : ((keyL zs k).map bv)[q]? = some (bv xs[32 * k + q]) := by
            have e1 : zs = xs.take (32 * Q) := by rw [← HZX.out, HQ.out]
            unfold keyL
            rw [List.getElem?_map, List.getElem?_take, if_pos hq32, List.getElem?_drop, e1, List.getElem?_take, if_pos (by omega), List.getElem?_eq_getElem hi]
            rfl
          have hc1 := HRG.out q _ hkq
          have e1 : wr.cell? ⟨g, k * 32 + q, none⟩ = some (.int .u8 (xs[32 * k + q].toNat : Int)) := by rw [hw]; exact hc1
          have e2 : wr.cell? ⟨b, o + (32 * k + q), none⟩ = some (.int .u8 (xs[32 * k + q].toNat : Int)) := by rw [hw]; exact hc
          clear hc hc1 hkq hk1 hw
          generalize xs[32 * k + q] = x at *
          have hne : ((x.toNat : Int) != (x.toNat : Int)) = false := by simp
          have f1 : (k : Int) < Q := by omega
          have f2 : (q : Int) < 32 := by omega
          clear hi
          go_wp2_with fail
          go_quiet (fail)
          go_wp2
          exact ⟨⟨q + 1, j + nq, by omega, by go_num, by rw [HW.out]; simp⟩, by simp [intOf]; omega⟩
        · have e : q = 32 := by omega
          subst e
          clear hw
          go_wp2_with fail
          exact ⟨⟨k + 1, j, by omega, by go_num, HW.out⟩, by simp [intOf]; omega⟩
    · have e : k = Q := by omega
      subst e
      clear hw
      go_wp2_with fail
      have hf : Frm noB w wr := by rw [HW.out]; exact (HF1.out.trans' HG.out).drewN _
      refine (works04 wr (HT.out.frm' hf)).mono ?_
      rintro _ we ⟨rfl, hf2⟩
      have HFF := Lib.hid (hf.trans' hf2)
      clear hf hf2
      try dsimp only
      go_wp2_with fail
      go_ret
      exact ⟨rfl, HFF.out⟩
end Go.Proofs.YtkhakddecmgejaaDoor
