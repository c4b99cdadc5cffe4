/-
  trystref03: Padded.
-/
import Derived.Test.YtkhakddecmgejaaDoorJoin
namespace Go.Proofs.YtkhakddecmgejaaDoor
open Go.RowKit
set_option linter.unusedVariables false
set_option linter.unusedSimpArgs false

theorem be8_take {l k : Nat} (hk : k < 8) : (be8 l).take (k + 1) = (be8 l).take k ++ [byteOf l k] := by
  have hl : (be8 l).length = 8 := by simp [be8]
  rw [List.take_succ_eq_append_getElem (by omega)]
  congr 2
  simp [be8, byteOf]
theorem byte_val' (l e : Nat) (z : Int) (hz : z = (l : Int)) : Value.int .u8 (z / 2 ^ e % 256) = bv (UInt8.ofNat (l >>> e)) := by
  subst hz
  unfold bv
  rw [UInt8.toNat_ofNat', Nat.shiftRight_eq_div_pow, show (2 : Nat) ^ 8 = 256 from rfl, Int.natCast_emod, Int.natCast_ediv, Int.natCast_pow]
  rfl

set_option maxRecDepth 100000 in
set_option maxHeartbeats 4000000 in
theorem padded_any (w : World) (A : Option Addr) (m : List UInt8) (c : Nat) (hx : Rd w A (m.map bv)) (hl : JLen m.length) :
    Calls Tryd.prog 61 #[.slice A m.length c] w fun e w' => ∃ v, e = .returned v ∧ w'.ownsRow w.heap.size 5 1 v (pad m).length ((pad m).map bv) ∧ Frm noB w w' := by
  have HX := Lib.hid hx
  unfold JLen at hl
  clear hx
  go_enter Tryd.func61, Tryd.ntmps61
  go_wp2
  go_loopw [3, 4] (fun v i wr => ∃ k : Nat, k ≤ m.length ∧ i = .int .i64 k ∧ wr.ownsRow w.heap.size 5 1 v k ((m.take k).map bv) ∧ Frm noB w wr) (fun _ i _ => m.length - (intOf i).toNat)
  case atStart => exact ⟨0, Nat.zero_le _, rfl, World.ownsRow_nil _ _ _ _, Frm.refl _ _⟩
  case round =>
    obtain ⟨k, hk, rfl, ho, hF⟩ := hrel
    obtain ⟨wq, rfl⟩ : ∃ wq : World, wq = wr := ⟨_, rfl⟩
    have HO := Lib.hid ho
    have HF := Lib.hid hF
    have hsz := hF.size
    clear ho hF
    by_cases hlt : k < m.length
    · obtain ⟨b, o, rfl, hc⟩ := (HX.out.frm' HF.out).b hlt
      go_wp2_with (at_builtin; refine app1 info29 rfl w.heap.size HO.out _ _ rfl rfl rfl rfl (by omega) (by omega) hsz ?_; intro A' c' w' ho' hcc' hf' hv'; have HO' := Lib.hid ho'; have HF' := Lib.hid hf'; clear ho' hf' hv' hcc')
      refine ⟨⟨k + 1, by omega, by go_num, ?_, HF.out.trans HF'.out fun j hj h => absurd (own_lt HO.out j h).1 (Nat.not_le.2 hj)⟩, by simp [intOf]; omega⟩
      rw [List.take_succ_eq_append_getElem hlt, List.map_append]
      exact HO'.out
    · have e : k = m.length := by omega
      subst e
      have HO1 : Hid (wq.ownsRow w.heap.size 5 1 _ m.length (m.map bv)) := Lib.hid (by have := HO.out; rwa [List.take_length] at this)
      clear HO hk
      go_wp2_with (at_builtin; refine app1 info29 rfl w.heap.size HO1.out _ _ rfl rfl rfl rfl (by omega) (by omega) hsz ?_; intro A1 c1 w1 ho1 hcc1 hf1 hv1; have HO2 : Hid (w1.ownsRow w.heap.size 5 1 (.slice A1 (m.length + 1) c1) (m.length + 1) ((m ++ [0x80]).map bv)) := Lib.hid (by rw [List.map_append]; exact ho1); have HF1 := Lib.hid (HF.out.trans hf1 fun j hj h => absurd (own_lt HO1.out j h).1 (Nat.not_le.2 hj)); clear ho1 hf1 hv1 hcc1)
      go_loopw [3] (fun v wr => ∃ (j n : Nat) (A' : Option Addr) (c' : Nat), j ≤ zs m.length ∧ n = m.length + 1 + j ∧ v = .slice A' n c' ∧ wr.ownsRow w.heap.size 5 1 (.slice A' n c') n ((m ++ (0x80 :: List.replicate j 0)).map bv) ∧ Frm noB w wr) (fun v _ => match v with | .slice _ n _ => m.length + 1 + zs m.length - n | _ => 0)
      case atStart => exact ⟨0, _, A1, c1, Nat.zero_le _, rfl, rfl, HO2.out, HF1.out⟩
      case round =>
        clear HO2 HF1 HO1 HF hsz
        obtain ⟨j, n, A2, c2, hj, hn, rfl, ho, hF⟩ := hrel
        obtain ⟨wp, rfl⟩ : ∃ wp : World, wp = wr := ⟨_, rfl⟩
        have HO := Lib.hid ho
        have HF := Lib.hid hF
        have HN := Lib.hid hn
        have hsz := hF.size
        have hz : zs m.length < 64 := by unfold zs; omega
        have hzz : zs m.length = (119 - m.length % 64) % 64 := rfl
        have hnb : n ≤ 1099511627776 + 65 := by omega
        by_cases hlt : j < zs m.length
        · have hb : (((n : Int) + 8) % 64 != 0) = true := by rw [bne_iff_ne]; omega
          have hmea : m.length + 1 + zs m.length - (n + 1) < m.length + 1 + zs m.length - n := by omega
          clear ho hF hn hz hzz
          go_wp2_with (at_builtin; refine app1 info29 rfl w.heap.size HO.out _ _ rfl rfl rfl rfl (by omega) (by omega) hsz ?_; intro A' c' w' ho' hcc' hf' hv'; have HO' := Lib.hid ho'; have HF' := Lib.hid hf'; clear ho' hf' hv' hcc')
          refine ⟨⟨j + 1, n + 1, A', c', by omega, by rw [HN.out]; rfl, rfl, ?_, HF.out.trans HF'.out fun q hq h => absurd (own_lt HO.out q h).1 (Nat.not_le.2 hq)⟩, hmea⟩
          have e : (m ++ (0x80 :: List.replicate (j + 1) 0)).map bv = (m ++ (0x80 :: List.replicate j 0)).map bv ++ [.int .u8 0] := by
            rw [List.replicate_succ', ← List.cons_append, ← List.append_assoc, List.map_append (l₂ := [0])]; rfl
          rw [e]
          exact HO'.out
        · have e : j = zs m.length := by omega
          subst e
          have hb : (((n : Int) + 8) % 64 != 0) = false := by
            have : ((n : Int) + 8) % 64 = 0 := by omega
            rw [this]; rfl
          have HO3 : Hid (wp.ownsRow w.heap.size 5 1 (.slice A2 n c2) n ((m ++ (0x80 :: List.replicate (zs m.length) 0)).map bv)) := HO
          obtain ⟨pre, hpre⟩ : ∃ pre, pre = m ++ (0x80 :: List.replicate (zs m.length) 0) := ⟨_, rfl⟩
          rw [← hpre] at HO3
          have HPRE := Lib.hid hpre
          clear ho hF hn hz hzz HO hpre hj
          go_wp2_with fail
          go_loopw [3, 6] (fun v i wr => ∃ (k : Nat) (A' : Option Addr) (c' : Nat), k ≤ 8 ∧ i = .int .i64 (7 - (k : Int)) ∧ v = .slice A' (n + k) c' ∧ wr.ownsRow w.heap.size 5 1 (.slice A' (n + k) c') (n + k) ((pre ++ (be8 (8 * m.length)).take k).map bv) ∧ Frm noB w wr) (fun _ i _ => (intOf i + 1).toNat)
          case atStart => exact ⟨0, A2, c2, by omega, rfl, rfl, by simpa using HO3.out, HF.out⟩
          case round =>
            clear HO3 HF hsz
            obtain ⟨k, A3, c3, hk, rfl, rfl, ho, hF⟩ := hrel
            obtain ⟨wo, rfl⟩ : ∃ wo : World, wo = wr := ⟨_, rfl⟩
            have HO := Lib.hid ho
            have HF := Lib.hid hF
            have hsz := hF.size
            clear ho hF
            by_cases hlt : k < 8
            · go_wp2_with (at_builtin; refine app1 info29 rfl w.heap.size HO.out _ _ rfl rfl rfl rfl (by omega) (by omega) hsz ?_; intro A' c' w' ho' hcc' hf' hv'; have HO' := Lib.hid ho'; have HF' := Lib.hid hf'; clear ho' hf' hv' hcc')
              refine ⟨⟨k + 1, A', c', by omega, by congr 1; omega, rfl, ?_, HF.out.trans HF'.out fun q hq h => absurd (own_lt HO.out q h).1 (Nat.not_le.2 hq)⟩, by simp [intOf]; omega⟩
              have := HO'.out
              rw [byte_val, show 8 * (7 - k) = 56 - 8 * k by omega] at this
              rw [be8_take hlt, ← List.append_assoc, List.map_append]
              exact this
            · have e : k = 8 := by omega
              subst e
              have hpad : pre ++ (be8 (8 * m.length)).take 8 = pad m := by
                rw [HPRE.out, List.take_of_length_le (by simp [be8])]; rfl
              have hlen : n + 8 = (pad m).length := by rw [pad_length, HN.out]
              have HO4 : Hid (wo.ownsRow w.heap.size 5 1 (.slice A3 (n + 8) c3) (pad m).length ((pad m).map bv)) := Lib.hid (by rw [← hpad, ← show n + 8 = (pre ++ (be8 (8 * m.length)).take 8).length by rw [hpad]; exact hlen]; exact HO.out)
              clear hpad hlen HO hk hsz
              go_wp2_with fail
              go_ret
              exact ⟨_, rfl, HO4.out, HF.out⟩
end Go.Proofs.YtkhakddecmgejaaDoor
