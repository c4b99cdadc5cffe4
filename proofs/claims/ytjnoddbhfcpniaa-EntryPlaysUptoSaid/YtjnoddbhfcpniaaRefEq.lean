/-
  EqInts, EqRows.
-/
import Derived.Test.YtjnoddbhfcpniaaRef

namespace Go.Proofs.Ytjnoddbhfcpniaa
open Go.RowKit
set_option linter.unusedVariables false
set_option linter.unusedSimpArgs false

set_option maxHeartbeats 400000 in
theorem eqInts_q (A B : Option Addr) (xs ys : List Int) (c d : Nat) (w : World) (hx : Rd w A (xs.map iv)) (hy : Rd w B (ys.map iv)) (h1 : Len xs.length) (h2 : Len ys.length) :
    Calls Try.prog 18 #[.slice A xs.length c, .slice B ys.length d] w fun e w' => e = .returned (.bool (eql xs ys)) ∧ ∃ n, w' = w.drewN n := by
  have h1 := h1.le
  have h2 := h2.le
  by_cases hl : xs.length = ys.length
  · go_enter Try.func18, Try.ntmps18
    go_wp2
    go_loopw [5] (fun i wr => ∃ k n : Nat, k ≤ xs.length ∧ i = .int .i64 k ∧ xs.take k = ys.take k ∧ wr = w.drewN n) (fun i _ => xs.length - (intOf i).toNat)
    case atStart => exact ⟨0, 0, by omega, rfl, rfl, rfl⟩
    case round =>
      obtain ⟨k, n, hk, rfl, hp, rfl⟩ := hrel
      by_cases hlt : k < xs.length
      · have hlt' : k < ys.length := by omega
        obtain ⟨b, o, rfl, hc⟩ := hx.i hlt
        obtain ⟨b', o', rfl, hc'⟩ := hy.i hlt'
        have HP := Lib.hid hp
        have HL := Lib.hid hl
        clear hp hl
        go_wp2_with fail
        go_quiet (fail)
        go_wp2
        · have hne := int_ne ‹_›
          go_ret
          exact ⟨ret_bool (eql_false (ne_of_at hlt hlt' hne)).symm, n + nq, by simp⟩
        · have he := int_eq ‹_›
          go_roundw
          case rel => exact ⟨k + 1, n + nq, by omega, by go_num, take_succ_eq hlt hlt' HP.out he, by simp⟩
          case measure => simp [intOf]; omega
      · have e : xs = ys := by rw [List.take_of_length_le (by omega), List.take_of_length_le (by omega)] at hp; exact hp
        have HE := Lib.hid e
        clear e hp
        go_wp2
        go_ret
        exact ⟨ret_bool (eql_true HE.out).symm, _, rfl⟩
  · have hl' : ((xs.length : Int) != (ys.length : Int)) = true := by simp; omega
    go_enter Try.func18, Try.ntmps18
    go_wp2
    go_ret
    exact ⟨ret_bool (eql_false fun e => hl (by rw [e])).symm, 0, rfl⟩

theorem eqInts_any (A B : Option Addr) (xs ys : List Int) (c d : Nat) (w : World) (hx : Rd w A (xs.map iv)) (hy : Rd w B (ys.map iv)) (h1 : Len xs.length) (h2 : Len ys.length) :
    Calls Try.prog 18 #[.slice A xs.length c, .slice B ys.length d] w fun e w' => e = .returned (.bool (eql xs ys)) ∧ Frm noB w w' :=
  (eqInts_q A B xs ys c d w hx hy h1 h2).mono fun _ _ ⟨h, n, hw⟩ => ⟨h, hw ▸ Frm.of_drewN _ _ _⟩



set_option maxHeartbeats 400000 in
theorem eqRows_q (A B : Option Addr) (xs ys : List (List UInt8)) (c d : Nat) (w : World) {N M : Nat → Prop} (hx : RdRows w A xs N) (hy : RdRows w B ys M) (h1 : Len xs.length) (h2 : Len ys.length) (h3 : ∀ l ∈ xs, Len l.length) (h4 : ∀ l ∈ ys, Len l.length) :
    Calls Try.prog 19 #[.slice A xs.length c, .slice B ys.length d] w fun e w' => e = .returned (.bool (eql xs ys)) ∧ ∃ n, w' = w.drewN n := by
  have h1 := h1.le
  have h2 := h2.le
  have H3 := Lib.hid h3
  have H4 := Lib.hid h4
  clear h3 h4
  by_cases hl : xs.length = ys.length
  · go_enter Try.func19, Try.ntmps19
    go_wp2
    go_loopw [5] (fun i wr => ∃ k n : Nat, k ≤ xs.length ∧ i = .int .i64 k ∧ xs.take k = ys.take k ∧ wr = w.drewN n) (fun i _ => xs.length - (intOf i).toNat)
    case atStart => exact ⟨0, 0, by omega, rfl, rfl, rfl⟩
    case round =>
      obtain ⟨k, n, hk, rfl, hp, hw0⟩ := hrel
      have hx := show RdRows wr A xs N from hw0 ▸ hx.drewN n
      have hy := show RdRows wr B ys M from hw0 ▸ hy.drewN n
      have HW := Lib.hid hw0
      clear hw0
      by_cases hlt : k < xs.length
      · have hlt' : k < ys.length := by omega
        obtain ⟨b, o, Ai, ci, rfl, hc, _, hri, _, _⟩ := hx.at hlt
        obtain ⟨b', o', Aj, cj, rfl, hc', _, hrj, _, _⟩ := hy.at hlt'
        have HP := Lib.hid hp
        have HL := Lib.hid hl
        have HRI := Lib.hid hri
        have HRJ := Lib.hid hrj
        clear hp hl hri hrj
        by_cases he : xs[k] = ys[k]
        · have hb := eql_true he
          have HE := Lib.hid he
          clear he
          go_wp2_with fail
          go_quiet ((go_at_call 22; refine Calls.quiet_of (eqBytes_q Ai Aj xs[k] ys[k] ci cj _ (HRI.out.drewN _) (HRJ.out.drewN _) (H3.out _ (List.getElem_mem hlt)) (H4.out _ (List.getElem_mem hlt')))))
          go_wp2
          go_roundw
          case rel => exact ⟨k + 1, n + nq, by omega, by go_num, take_succ_eq hlt hlt' HP.out HE.out, by rw [HW.out]; simp⟩
          case measure => simp [intOf]; omega
        · have hb := eql_false he
          have HE := Lib.hid he
          clear he
          go_wp2_with fail
          go_quiet ((go_at_call 22; refine Calls.quiet_of (eqBytes_q Ai Aj xs[k] ys[k] ci cj _ (HRI.out.drewN _) (HRJ.out.drewN _) (H3.out _ (List.getElem_mem hlt)) (H4.out _ (List.getElem_mem hlt')))))
          go_wp2
          go_ret
          exact ⟨ret_bool (eql_false (ne_of_at hlt hlt' HE.out)).symm, n + nq, by rw [HW.out]; simp⟩
      · have e : xs = ys := by rw [List.take_of_length_le (by omega), List.take_of_length_le (by omega)] at hp; exact hp
        have HE := Lib.hid e
        clear e hp
        go_wp2
        go_ret
        exact ⟨ret_bool (eql_true HE.out).symm, _, HW.out⟩
  · have hl' : ((xs.length : Int) != (ys.length : Int)) = true := by simp; omega
    go_enter Try.func19, Try.ntmps19
    go_wp2
    go_ret
    exact ⟨ret_bool (eql_false fun e => hl (by rw [e])).symm, 0, rfl⟩
theorem eqRows_any (A B : Option Addr) (xs ys : List (List UInt8)) (c d : Nat) (w : World) {N M : Nat → Prop} (hx : RdRows w A xs N) (hy : RdRows w B ys M) (h1 : Len xs.length) (h2 : Len ys.length) (h3 : ∀ l ∈ xs, Len l.length) (h4 : ∀ l ∈ ys, Len l.length) :
    Calls Try.prog 19 #[.slice A xs.length c, .slice B ys.length d] w fun e w' => e = .returned (.bool (eql xs ys)) ∧ Frm noB w w' :=
  (eqRows_q A B xs ys c d w hx hy h1 h2 h3 h4).mono fun _ _ ⟨h, n, hw⟩ => ⟨h, hw ▸ Frm.of_drewN _ _ _⟩
end Go.Proofs.Ytjnoddbhfcpniaa
