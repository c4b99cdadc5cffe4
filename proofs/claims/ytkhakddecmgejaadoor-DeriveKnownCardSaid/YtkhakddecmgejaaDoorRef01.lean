/-
  trystref01: Twin, Same, Lent, Kept.
-/
import Derived.Test.YtkhakddecmgejaaDoorAppN
namespace Go.Proofs.YtkhakddecmgejaaDoor
open Go.RowKit
set_option linter.unusedVariables false
set_option linter.unusedSimpArgs false

set_option maxHeartbeats 400000 in
theorem twin_any (w : World) (A : Option Addr) (xs : List UInt8) (c : Nat) (hx : Rd w A (xs.map bv)) (h1 : xs.length ≤ 100000000000) :
    Calls Tryd.prog 40 #[.slice A xs.length c] w fun e w' => ∃ A' c', e = .returned (.slice A' xs.length c') ∧ w'.ownsRow w.heap.size 5 1 (.slice A' xs.length c') xs.length (xs.map bv) ∧ Frm noB w w' := by
  go_enter Tryd.func40, Tryd.ntmps40
  go_wp2
  go_loopw [3, 4] (fun v i wr => ∃ k : Nat, k ≤ xs.length ∧ i = .int .i64 k ∧ wr.ownsRow w.heap.size 5 1 v k ((xs.take k).map bv) ∧ Frm noB w wr) (fun _ i _ => xs.length - (intOf i).toNat)
  case atStart => exact ⟨0, Nat.zero_le _, rfl, World.ownsRow_nil _ _ _ _, Frm.refl _ _⟩
  case round =>
    obtain ⟨k, hk, rfl, hown, hf⟩ := hrel
    obtain ⟨Av, cv, rfl, _⟩ := own_slice hown
    by_cases hlt : k < xs.length
    · obtain ⟨b, o, rfl, hc⟩ := (hx.frm' hf).b hlt
      go_wp2_with (at_builtin; refine app1 info29 rfl w.heap.size hown _ _ rfl rfl rfl rfl (by omega) (by omega) hf.size ?_; intro A' c' w' hown' hcc hf' hv')
      go_roundw
      case rel =>
        refine ⟨k + 1, by omega, by go_num, ?_, hf.trans hf' fun j hj hv => ?_⟩
        · rw [List.take_succ_eq_append_getElem hlt, List.map_append]; exact hown'
        · have := own_lt hown j hv; omega
      case measure => simp [intOf]; omega
    · have e : k = xs.length := by omega
      subst e
      rw [List.take_length] at hown
      go_wp2
      go_ret
      exact ⟨_, _, rfl, hown, hf⟩
theorem twin_n (w : World) (A : Option Addr) (xs : List UInt8) (n c : Nat) (hn : xs.length = n) (hx : Rd w A (xs.map bv)) (h1 : n ≤ 100000000000) :
    Calls Tryd.prog 40 #[.slice A n c] w fun e w' => ∃ A' c', e = .returned (.slice A' n c') ∧ w'.ownsRow w.heap.size 5 1 (.slice A' n c') n (xs.map bv) ∧ Frm noB w w' := by
  subst hn
  exact twin_any w A xs c hx h1

set_option maxHeartbeats 400000 in
theorem same_q (A B : Option Addr) (xs ys : List UInt8) (c d : Nat) (w : World) (hx : Rd w A (xs.map bv)) (hy : Rd w B (ys.map bv)) (h1 : Len xs.length) (h2 : Len ys.length) :
    Calls Tryd.prog 47 #[.slice A xs.length c, .slice B ys.length d] w fun e w' => e = .returned (.bool (eql xs ys)) ∧ ∃ n, w' = w.drewN n := by
  have h1 := h1.le
  have h2 := h2.le
  by_cases hl : xs.length = ys.length
  · go_enter Tryd.func47, Tryd.ntmps47
    go_wp2
    go_loopw [5] (fun i wr => ∃ k n : Nat, k ≤ xs.length ∧ i = .int .i64 k ∧ xs.take k = ys.take k ∧ wr = w.drewN n) (fun i _ => xs.length - (intOf i).toNat)
    case atStart => exact ⟨0, 0, by omega, rfl, rfl, rfl⟩
    case round =>
      obtain ⟨k, n, hk, rfl, hp, rfl⟩ := hrel
      by_cases hlt : k < xs.length
      · have hlt' : k < ys.length := by omega
        obtain ⟨b, o, rfl, hc⟩ := hx.b hlt
        obtain ⟨b', o', rfl, hc'⟩ := hy.b hlt'
        have HP := Lib.hid hp
        have HL := Lib.hid hl
        clear hp hl
        go_wp2_with fail
        go_quiet (fail)
        go_wp2
        · have hne := u8_ne ‹_›
          go_ret
          exact ⟨ret_bool (eql_false (ne_of_at hlt hlt' hne)).symm, n + nq, by simp⟩
        · have he := u8_eq ‹_›
          go_roundw
          case rel => exact ⟨k + 1, n + nq, by omega, by go_num, take_succ_eq hlt hlt' HP.out he, by simp⟩
          case measure => simp [intOf]; omega
      · have e : xs = ys := by rw [List.take_of_length_le (by omega), List.take_of_length_le (by omega)] at hp; exact hp
        have HE := Lib.hid e
        clear e hp
        go_wp2
        go_ret
        exact ⟨ret_bool (eql_true HE.out).symm, _, rfl⟩
  · have hl' : ((xs.length : Int) != (ys.length : Int)) = true := by simp; omega
    go_enter Tryd.func47, Tryd.ntmps47
    go_wp2
    go_ret
    exact ⟨ret_bool (eql_false fun e => hl (by rw [e])).symm, 0, rfl⟩
theorem same_n (A B : Option Addr) (xs ys : List UInt8) (n m c d : Nat) (w : World) (hn : xs.length = n) (hm : ys.length = m) (hx : Rd w A (xs.map bv)) (hy : Rd w B (ys.map bv)) (h1 : Len n) (h2 : Len m) :
    Calls Tryd.prog 47 #[.slice A n c, .slice B m d] w fun e w' => e = .returned (.bool (eql xs ys)) ∧ Frm noB w w' := by
  subst hn; subst hm
  exact (same_q A B xs ys c d w hx hy h1 h2).mono fun _ _ ⟨h, n, hw⟩ => ⟨h, hw ▸ Frm.of_drewN _ _ _⟩

/-- the marks behind what is lent -/
def lentM : List UInt8 := (List.range 64).map fun i => UInt8.ofNat (200 + i % 7)
def lentL (xs : List UInt8) : List UInt8 := xs ++ lentM
theorem lentM_length : lentM.length = 64 := by simp [lentM]
theorem lentL_length (xs : List UInt8) : (lentL xs).length = xs.length + 64 := by simp [lentL, lentM_length]
theorem lentM_at {i : Nat} (h : i < 64) (h' : i < lentM.length) : bv lentM[i] = .int .u8 (200 + (i : Int) % 7) := by
  simp only [lentM, List.getElem_map, List.getElem_range, bv]
  rw [UInt8.toNat_ofNat']
  congr 1
  omega

set_option maxHeartbeats 1000000 in
theorem lent_any (w : World) (A : Option Addr) (xs : List UInt8) (c : Nat) (hx : Rd w A (xs.map bv)) (h1 : xs.length ≤ 10000000000) :
    Calls Tryd.prog 33 #[.slice A xs.length c] w fun e w' => ∃ A' c', e = .returned (.slice A' (xs.length + 64) c') ∧ w'.ownsRow w.heap.size 5 1 (.slice A' (xs.length + 64) c') (xs.length + 64) ((lentL xs).map bv) ∧ Frm noB w w' := by
  have HX := Lib.hid hx
  clear hx
  go_enter Tryd.func33, Tryd.ntmps33
  go_wp2_with fail
  refine (twin_any w A xs c HX.out (by omega)).mono ?_
  rintro _ w1 ⟨A1, c1, rfl, ho, hf⟩
  have HO1 := Lib.hid ho
  have HF1 := Lib.hid hf
  clear ho hf
  try dsimp only
  go_wp2_with fail
  go_loopw [3, 4] (fun v i wr => ∃ k : Nat, k ≤ 64 ∧ i = .int .i64 k ∧ wr.ownsRow w.heap.size 5 1 v (xs.length + k) ((xs ++ lentM.take k).map bv) ∧ Frm noB w wr) (fun _ i _ => 64 - (intOf i).toNat)
  case atStart => exact ⟨0, Nat.zero_le _, rfl, by simpa using HO1.out, HF1.out⟩
  case round =>
    clear HO1 HF1
    obtain ⟨k, hk, rfl, hown, hf⟩ := hrel
    obtain ⟨Av, cv, rfl, _⟩ := own_slice hown
    have HO := Lib.hid hown
    have HF := Lib.hid hf
    have hsz := hf.size
    clear hown hf
    by_cases hlt : k < 64
    · have hml : k < lentM.length := by rw [lentM_length]; exact hlt
      have HY := Lib.hid (lentM_at hlt hml)
      have HYS : Hid ((xs ++ lentM.take k).map bv ++ [.int .u8 (200 + (k : Int) % 7)] = (xs ++ lentM.take (k + 1)).map bv) := Lib.hid (by
        rw [List.take_succ_eq_append_getElem hml, ← List.append_assoc, List.map_append (l₂ := [lentM[k]]), List.map_cons, List.map_nil, HY.out])
      have hm7 : 0 ≤ (k : Int) % 7 ∧ (k : Int) % 7 < 7 := by omega
      clear HY hml
      go_wp2_with (at_builtin; refine app1N info29 rfl w.heap.size HO.out (.tmp 11) (.tmp 16) rfl rfl rfl rfl rfl (xs.length + (k + 1)) (by omega) _ HYS.out (by omega) (by omega) hsz ?_; intro A' c' w' hown' hcc hf' hv'; have HO' := Lib.hid hown'; have HF' := Lib.hid hf'; clear hown' hf' hv')
      exact ⟨⟨k + 1, by omega, by go_num, HO'.out, HF.out.trans HF'.out fun j hj hv => by have := own_lt HO.out j hv; omega⟩, by simp [intOf]; omega⟩
    · have e : k = 64 := by omega
      subst e
      have HR : Hid (wr.ownsRow w.heap.size 5 1 (.slice Av (xs.length + 64) cv) (xs.length + 64) ((lentL xs).map bv)) := Lib.hid (by
        have := HO.out
        rwa [List.take_of_length_le (by rw [lentM_length]; omega)] at this)
      clear HO
      go_wp2_with fail
      go_ret
      exact ⟨_, _, rfl, HR.out, HF.out⟩
theorem kept1_any (w : World) (A B : Option Addr) (xs : List UInt8) (c d : Nat) (hy : Rd w A ((lentL xs).map bv)) (hx : Rd w B (xs.map bv)) (h1 : xs.length ≤ 10000000000) :
    Calls Tryd.prog 35 #[.slice A (xs.length + 64) c, .slice B xs.length d] w fun e w' => e = .returned (.bool true) ∧ Frm noB w w' := by
  have HX := Lib.hid hx
  have HY := Lib.hid hy
  clear hx hy
  go_enter Tryd.func35, Tryd.ntmps35
  go_wp2_with fail
  refine (lent_any w B xs d HX.out h1).mono ?_
  rintro _ w1 ⟨A1, c1, rfl, ho, hf⟩
  have HR := Lib.hid (Rd.of_own ho)
  have HF := Lib.hid hf
  clear ho hf
  try dsimp only
  go_wp2_with fail
  refine (same_n A A1 (lentL xs) (lentL xs) (xs.length + 64) (xs.length + 64) c c1 w1 (lentL_length _) (lentL_length _) (HY.out.frm' HF.out) HR.out (by unfold Len; omega) (by unfold Len; omega)).mono ?_
  rintro _ w2 ⟨rfl, hf⟩
  rw [show eql (lentL xs) (lentL xs) = true from eql_true rfl]
  have HF2 := Lib.hid (HF.out.trans' hf)
  clear hf
  try dsimp only
  go_wp2_with fail
  go_ret
  exact ⟨rfl, HF2.out⟩
end Go.Proofs.YtkhakddecmgejaaDoor
