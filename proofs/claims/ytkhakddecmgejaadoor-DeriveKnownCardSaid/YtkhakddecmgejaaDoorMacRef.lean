/-
  trystref04: frame, Sum, Join, List, Extract.
-/
import Derived.Test.YtkhakddecmgejaaDoorMacP
import Derived.Test.YtkhakddecmgejaaDoorRSum
import Derived.Deep.DeepCutAuto
namespace Go.Proofs.YtkhakddecmgejaaDoor
open Go.RowKit
set_option linter.unusedVariables false
set_option linter.unusedSimpArgs false

set_option maxRecDepth 100000 in
set_option maxHeartbeats 2000000 in
theorem frame_any (w : World) (A : Option Addr) (key : List UInt8) (cap : Nat) (c : UInt8) (z : Int) (hz : z = (c.toNat : Int)) (hx : Rd w A (key.map bv)) (hl : JLen key.length) :
    Calls Tryd.prog 67 #[.slice A key.length cap, .int .u8 z] w fun e w' => ∃ A' c', e = .returned (.slice A' 64 c') ∧ w'.ownsRow w.heap.size 5 1 (.slice A' 64 c') 64 ((turned c (padKey key)).map bv) ∧ Frm noB w w' := by
  have HX := Lib.hid hx
  have HL := Lib.hid hl
  have HC := Lib.hid hz
  unfold JLen at hl
  clear hx hz
  go_enter Tryd.func67, Tryd.ntmps67
  go_upto_if 11 with fail
  go_cut [5] (fun v wx => wx.ownsRow w.heap.size 5 1 v (shortKey key).length ((shortKey key).map bv) ∧ Frm noB w wx)
  case first =>
    by_cases h64 : 64 < key.length
    · have hsk : shortKey key = sha key := if_pos h64
      have HSK := Lib.hid hsk
      clear hsk
      go_wp2_with fail
      refine (rsum_any w A key cap HX.out HL.out).mono ?_
      rintro _ w3 ⟨rfl, hf⟩
      obtain ⟨wz, hrun, hz', hfz⟩ := run_storeRow (P := Tryd.prog) (w := w3.alloc (.cells #[.int .u8 0, .int .u8 0, .int .u8 0, .int .u8 0, .int .u8 0, .int .u8 0, .int .u8 0, .int .u8 0, .int .u8 0, .int .u8 0, .int .u8 0, .int .u8 0, .int .u8 0, .int .u8 0, .int .u8 0, .int .u8 0, .int .u8 0, .int .u8 0, .int .u8 0, .int .u8 0, .int .u8 0, .int .u8 0, .int .u8 0, .int .u8 0, .int .u8 0, .int .u8 0, .int .u8 0, .int .u8 0, .int .u8 0, .int .u8 0, .int .u8 0, .int .u8 0] 26)) (Blk.new _ _ _) (cs := arr 32 (shaAt key)) (by rw [arr_size]; rfl) (one_arr fun i _ => rfl)
      have HZ := Lib.hid hz'.hashRd
      have HF : Hid (Frm noB w wz) := Lib.hid (hf.trans' (((Frm.refl noB w3).alloc (.cells #[.int .u8 0, .int .u8 0, .int .u8 0, .int .u8 0, .int .u8 0, .int .u8 0, .int .u8 0, .int .u8 0, .int .u8 0, .int .u8 0, .int .u8 0, .int .u8 0, .int .u8 0, .int .u8 0, .int .u8 0, .int .u8 0, .int .u8 0, .int .u8 0, .int .u8 0, .int .u8 0, .int .u8 0, .int .u8 0, .int .u8 0, .int .u8 0, .int .u8 0, .int .u8 0, .int .u8 0, .int .u8 0, .int .u8 0, .int .u8 0, .int .u8 0, .int .u8 0] 26)).trans hfz fun k hk h => by have h : k = w3.heap.size := h; omega))
      have hsl := sha_length key
      obtain ⟨s, hs⟩ : ∃ s, s = sha key := ⟨_, rfl⟩
      have HSX := Lib.hid hs
      rw [← hs] at hsl
      have HSL := Lib.hid hsl
      have HZ' : Hid (Rd wz (some ⟨w3.heap.size, 0, none⟩) (s.map bv)) := Lib.hid (by rw [hs]; exact HZ.out)
      clear hf hz' hfz hs hsl HZ
      try dsimp only
      go_wp2_with fail
      go_loopw [5, 7] (fun v i wr => ∃ k : Nat, k ≤ 32 ∧ i = .int .i64 k ∧ wr.ownsRow wz.heap.size 5 1 v k ((s.take k).map bv) ∧ Frm noB wz wr) (fun _ i _ => 32 - (intOf i).toNat)
      case atStart => exact ⟨0, Nat.zero_le _, rfl, World.ownsRow_nil _ _ _ _, Frm.refl _ _⟩
      case round =>
        obtain ⟨k, hk, rfl, hown, hFz⟩ := hrel
        have HO := Lib.hid hown
        have HFz := Lib.hid hFz
        have hsz := hFz.size
        clear hown hFz
        by_cases hlt : k < 32
        · have hks : k < s.length := by rw [HSL.out]; exact hlt
          obtain ⟨b, o, e, hc⟩ := (HZ'.out.frm' HFz.out).b hks
          cases e
          rw [Nat.zero_add] at hc
          have HTS := Lib.hid (List.take_succ_eq_append_getElem hks)
          generalize s[k] = sx at *
          clear hks
          go_wp2_with (at_builtin; refine app1 info29 rfl wz.heap.size HO.out _ _ rfl rfl rfl rfl (by omega) (by omega) hsz ?_; intro A' c' w' hown' hcc hf' hv'; have HO' := Lib.hid hown'; have HF' := Lib.hid hf'; clear hown' hf' hv')
          refine ⟨⟨k + 1, by omega, by go_num, ?_, HFz.out.trans HF'.out fun j hj hv => by have := own_lt HO.out j hv; omega⟩, by simp [intOf]; omega⟩
          rw [HTS.out, List.map_append]
          exact HO'.out
        · have e : k = 32 := by omega
          subst e
          go_wp2_with fail
          go_meet
          refine ⟨?_, HF.out.trans' HFz.out⟩
          rw [HSK.out, ← HSX.out, HSL.out]
          have := HO.out
          rw [List.take_of_length_le (by rw [HSL.out]; omega)] at this
          exact own_base this fun q hq => by have := (own_lt this q hq).1; have := HF.out.size; omega
    · have hsk : shortKey key = key := if_neg h64
      have HSK := Lib.hid hsk
      clear hsk
      go_wp2_with (at_builtin; refine app info29 rfl w.heap.size (World.ownsRow_nil _ _ _ _) _ _ rfl rfl rfl (by simp) HX.out (bv_one _) (by omega) (by omega) (Nat.le_refl _) ?_; intro A' c' w' ho' hc' hf' hv'; have HO' := Lib.hid ho'; have HF' := Lib.hid hf'; clear ho' hf' hv')
      go_meet
      rw [HSK.out]
      exact ⟨by simpa using HO'.out, HF'.out.mono fun k _ h => by simp [oB, Value.ownBlock] at h⟩
  case rest =>
    obtain ⟨hO, hF⟩ := hcut
    obtain ⟨s, hs⟩ : ∃ s, s = shortKey key := ⟨_, rfl⟩
    have hsl : s.length ≤ 64 := by rw [hs]; exact shortKey_le key
    rw [← hs] at hO
    have HPK : Hid (padKey key = s ++ List.replicate (64 - s.length) 0) := Lib.hid (by rw [hs]; rfl)
    have HO := Lib.hid hO
    have HF := Lib.hid hF
    clear hO hF hs
    go_wp2_with fail
    go_loopw [5] (fun v wr => ∃ k : Nat, k ≤ 64 - s.length ∧ wr.ownsRow w.heap.size 5 1 v (s.length + k) ((s ++ List.replicate k 0).map bv) ∧ Frm noB w wr) (fun v _ => 64 - lenV v)
    case atStart => exact ⟨0, Nat.zero_le _, by simpa using HO.out, HF.out⟩
    case round =>
      clear HO HF
      obtain ⟨k, hk, hO, hF⟩ := hrel
      obtain ⟨Av, cv, rfl, _⟩ := own_slice hO
      have HO := Lib.hid hO
      have HF := Lib.hid hF
      have hsz := hF.size
      clear hO hF
      by_cases hlt : s.length + k < 64
      · go_wp2_with (at_builtin; refine app1 info29 rfl w.heap.size HO.out _ _ rfl rfl rfl rfl (by omega) (by omega) hsz ?_; intro A' c' w' hown' hcc hf' hv'; have HO' := Lib.hid hown'; have HF' := Lib.hid hf'; clear hown' hf' hv')
        refine ⟨⟨k + 1, by omega, ?_, HF.out.trans HF'.out fun j hj hv => by have := own_lt HO.out j hv; omega⟩, by simp [lenV]; omega⟩
        rw [List.replicate_succ', ← List.append_assoc, List.map_append]
        exact HO'.out
      · have hk64 : s.length + k = 64 := by omega
        have hO2 : wr.ownsRow w.heap.size 5 1 (.slice Av (s.length + k) cv) 64 ((padKey key).map bv) := by
          have h := HO.out
          rw [HPK.out, show 64 - s.length = k by omega]
          rw [hk64] at h ⊢
          exact h
        rw [hk64] at hO2 ⊢
        obtain ⟨K, hK⟩ : ∃ K, K = padKey key := ⟨_, rfl⟩
        have hKl : K.length = 64 := by rw [hK]; exact padKey_length key
        rw [← hK] at hO2
        have HK := Lib.hid hK
        have HKL := Lib.hid hKl
        have HO2 := Lib.hid hO2
        clear HO hO2 hK hKl hk64
        obtain ⟨wq, rfl⟩ : ∃ wq : World, wq = wr := ⟨_, rfl⟩
        go_wp2_with fail
        go_loopw [8] (fun i wr => ∃ q : Nat, q ≤ 64 ∧ i = .int .i64 q ∧ wr.ownsRow w.heap.size 5 1 (.slice Av 64 cv) 64 ((mixL (· ^^^ c) K q).map bv) ∧ Frm noB w wr) (fun i _ => 64 - (intOf i).toNat)
        case atStart => exact ⟨0, Nat.zero_le _, rfl, by rw [mixL_zero]; exact HO2.out, HF.out⟩
        case round =>
          clear HO2 HF
          obtain ⟨q, hq, rfl, hO, hF⟩ := hrel
          have HO := Lib.hid hO
          have HF := Lib.hid hF
          clear hF
          by_cases hql : q < 64
          · have hqK : q < K.length := by rw [HKL.out]; exact hql
            obtain ⟨g, rfl⟩ : ∃ g, Av = some ⟨g, 0, none⟩ := by
              rcases hO.2 with ⟨_, h0⟩ | ⟨g, cap, cur, e, _⟩
              · omega
              · injection e with e; exact ⟨g, e⟩
            have hc : wr.cell? ⟨g, q, none⟩ = some (.int .u8 (K[q].toNat : Int)) := by
              rw [hO.cellAt q (by omega)]
              have := mixL_at (· ^^^ c) K hqK
              rw [List.getElem?_map, List.getElem?_eq_getElem (by rw [mixL_length]; exact hqK), this]
              rfl
            have hz := hO.frozenAt q
            have hst := (hO.stored q (bv (K[q] ^^^ c))).1
            rw [← List.map_set, mixL_set (· ^^^ c) K hqK] at hst
            have HST := Lib.hid hst
            have hx := bv_xor K[q] c
            rw [← HC.out] at hx
            have hgw := (own_lt hO g rfl).1
            generalize K[q] = kq at *
            clear hst hO hqK
            go_wp2_with fail
            exact ⟨⟨q + 1, by omega, by go_num, HST.out, HF.out.setCell (.inr hgw) _⟩, by simp [intOf]; omega⟩
          · have e : q = 64 := by omega
            subst e
            have HO3 : Hid (wr.ownsRow w.heap.size 5 1 (.slice Av 64 cv) 64 ((turned c (padKey key)).map bv)) := Lib.hid (by
              have h := hO
              rw [← HKL.out, mixL_all, HKL.out, HK.out] at h
              exact h)
            clear hO HO
            go_wp2_with fail
            go_ret
            exact ⟨_, _, rfl, HO3.out, HF.out⟩
end Go.Proofs.YtkhakddecmgejaaDoor
