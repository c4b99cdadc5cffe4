/-
  Lists of lists of bytes in rows of their own; CopyRows.
-/
import Derived.Test.YtjnoddbhfcpniaaRef
import Derived.Test.YtjnoddbhfcpniaaBlk
namespace Go.Proofs.Ytjnoddbhfcpniaa
open Go.RowKit
set_option linter.unusedVariables false
set_option linter.unusedSimpArgs false

/-- lists of bytes in rows of their own, in an owned row -/
structure OwnedRows (w : World) (base : Nat) (v : Value) (vs : List Value) (xss : List (List UInt8)) : Prop where
  row : w.ownsRow base 35 1 v vs.length vs
  len : vs.length = xss.length
  each : ∀ i (h : i < vs.length) (h' : i < xss.length), w.ownsRow base 5 1 vs[i] xss[i].length (xss[i].map bv)
  apart : ∀ i j (h : i < vs.length) (h' : j < vs.length) k, i ≠ j → oB vs[i] k → ¬ oB vs[j] k

theorem OwnedRows.rd {w : World} {base : Nat} {A : Option Addr} {n c : Nat} {vs : List Value} {xss : List (List UInt8)} (h : OwnedRows w base (.slice A n c) vs xss) : n = xss.length ∧ RdRows w A xss (fun k => base ≤ k ∧ k < w.heap.size) := by
  have hn : n = vs.length := by
    have hr := h.row
    rcases hr.2 with ⟨e, h0⟩ | ⟨g, cap, cur, e, _⟩
    · injection e with _ e2 _; omega
    · injection e with _ e2 _
  subst hn
  refine ⟨h.len, vs, Rd.of_own h.row, h.len, fun i hi hi' => ?_, fun _ k hk => ?_⟩
  · have := h.each i hi' hi
    obtain ⟨A', c', e, hcc⟩ := own_slice this
    rw [e] at this
    refine ⟨A', c', e, hcc, Rd.of_own this, fun _ k hk => own_lt this k ?_⟩
    obtain ⟨a, rfl, rfl⟩ := hk
    rfl
  · obtain ⟨a, rfl, rfl⟩ := hk
    exact own_lt h.row _ rfl

set_option maxHeartbeats 400000 in
theorem copyRows_any (A : Option Addr) (xss : List (List UInt8)) (c : Nat) (w : World) {N : Nat → Prop} (hx : RdRows w A xss N) (h1 : xss.length ≤ 2000000) (h2 : ∀ l ∈ xss, Len l.length) :
    Calls Try.prog 20 #[.slice A xss.length c] w fun e w' => ∃ v vs, e = .returned v ∧ OwnedRows w' w.heap.size v vs xss ∧ Frm noB w w' := by
  have H2 := Lib.hid h2
  clear h2
  go_enter Try.func20, Try.ntmps20
  go_wp2
  go_loopw [3, 4] (fun v i wr => ∃ (k : Nat) (vs : List Value), k ≤ xss.length ∧ i = .int .i64 k ∧ OwnedRows wr w.heap.size v vs (xss.take k) ∧ Frm noB w wr) (fun _ i _ => xss.length - (intOf i).toNat)
  case atStart => exact ⟨0, [], Nat.zero_le _, rfl, ⟨World.ownsRow_nil _ _ _ _, rfl, fun i h => absurd h (by simp), fun i j h => absurd h (by simp)⟩, Frm.refl _ _⟩
  case round =>
    obtain ⟨k, vs, hk, rfl, ho, hf⟩ := hrel
    by_cases hlt : k < xss.length
    · obtain ⟨b, o, Ai, ci, rfl, hc, _, hri, _, _⟩ := (hx.frm' hf).at hlt
      have HO := Lib.hid ho
      have HF := Lib.hid hf
      have HRI := Lib.hid hri
      have hvs : vs.length = k := by rw [ho.len]; simp; omega
      have HVS := Lib.hid hvs
      have hvs' : vs.length ≤ 2000000 := by omega
      clear ho hf hri hvs
      go_wp2_with (first | (go_at_call 16; refine (copyBytes_any Ai xss[k] ci _ HRI.out (H2.out _ (List.getElem_mem hlt))).mono ?_; rintro e w1 ⟨v1, rfl, ho1, hf1⟩; obtain ⟨A1, c1, rfl, hc1⟩ := own_slice ho1; have HO1 := Lib.hid ho1; have HF1 := Lib.hid hf1; clear ho1 hf1) | (at_builtin; refine app1 info37 rfl w.heap.size (own_frm' HO.out.row HF1.out) _ _ rfl rfl rfl rfl (by omega) (by omega) (Nat.le_trans HF.out.size HF1.out.size) ?_; intro A2 c2 w2 ho2 hc2 hf2 hv2; have HO2 := Lib.hid ho2; have HF2 := Lib.hid hf2; clear ho2 hf2 hv2))
      go_roundw
      case rel =>
        have hl1 := own_lt HO1.out
        have hlv : ∀ {k}, oB _ k → w.heap.size ≤ k ∧ k < _ := own_lt HO.out.row _
        have s0 := HF.out.size
        have s1 := HF1.out.size
        refine ⟨k + 1, vs ++ [.slice A1 xss[k].length c1], by omega, by go_num, ⟨by simpa using HO2.out, by simp [HVS.out]; omega, fun i hi hi' => ?_, fun i j hi hj q hij hq => ?_⟩, (HF.out.trans' HF1.out).trans HF2.out fun q hq h => by have := (hlv h).1; omega⟩
        · by_cases e : i < vs.length
          · have hh := HO.out.each i e (by have := HO.out.len; omega)
            simp only [List.getElem_append_left e]
            have e2 : (xss.take (k + 1))[i] = (xss.take k)[i]'(by have := HO.out.len; omega) := by simp
            rw [e2]
            exact own_frm (own_frm' hh HF1.out) HF2.out fun q hq => own_own_ne hh HO.out.row (by decide) hq
          · have e1 : i = k := by simp [HVS.out] at hi; have := HVS.out; omega
            subst e1
            have e2 : (xss.take (i + 1))[i] = xss[i] := by simp
            rw [e2]
            have e3 : (vs ++ [Value.slice A1 xss[i].length c1])[i] = .slice A1 xss[i].length c1 := by
              rw [List.getElem_append_right (by have := HVS.out; omega)]; simp
            rw [e3]
            exact own_base (own_frm HO1.out HF2.out fun q hq h => by have := (hl1 q hq).1; have := (hlv h).2; omega) fun q hq => by have := (hl1 q hq).1; omega
        · have hold : ∀ i (h : i < vs.length), oB vs[i] q → q < wr.heap.size := fun i h hq => (own_lt (HO.out.each i h (by have := HO.out.len; omega)) q hq).2
          by_cases e : i < vs.length
          · rw [List.getElem_append_left e] at hq
            by_cases e' : j < vs.length
            · rw [List.getElem_append_left e']; exact HO.out.apart i j e e' q hij hq
            · have e3 : (vs ++ [Value.slice A1 xss[k].length c1])[j] = .slice A1 xss[k].length c1 := by
                rw [List.getElem_append_right (by omega)]; simp
              rw [e3]
              intro h
              have := (hl1 q h).1
              have := hold i e hq
              omega
          · have e3 : (vs ++ [Value.slice A1 xss[k].length c1])[i] = .slice A1 xss[k].length c1 := by
              rw [List.getElem_append_right (by omega)]; simp
            rw [e3] at hq
            have e' : j < vs.length := by simp at hi hj; omega
            rw [List.getElem_append_left e']
            intro h
            have := (hl1 q hq).1
            have := hold j e' h
            omega
      case measure => simp [intOf]; omega
    · have e : k = xss.length := by omega
      subst e
      rw [List.take_length] at ho
      have HO := Lib.hid ho
      have HF := Lib.hid hf
      clear ho hf
      go_wp2
      go_ret
      exact ⟨_, vs, rfl, HO.out, HF.out⟩
end Go.Proofs.Ytjnoddbhfcpniaa
