/-
  trystlaw04: unhex, digit, is, works.
-/
import Derived.Test.YtkhakddecmgejaaDoorMac3
import Derived.Test.YtkhakddecmgejaaDoorExpRef
import Derived.Deep.RegionHeld3
import Derived.Lib.SlBytesConst
namespace Go.Proofs.YtkhakddecmgejaaDoor
open Go.RowKit
set_option linter.unusedVariables false
set_option linter.unusedSimpArgs false

def dig (c : UInt8) : UInt8 := if 97 ≤ c then c - 97 + 10 else c - 48
theorem digit_any (c : UInt8) (w : World) : Calls Tryd.prog 70 #[.int .u8 (c.toNat : Int)] w fun e w' => e = .returned (.int .u8 ((dig c).toNat : Int)) ∧ w = w' := by
  have hc := c.toNat_lt
  by_cases h : 97 ≤ c.toNat
  · have hd : ((dig c).toNat : Int) = (c.toNat : Int) - 97 + 10 := by
      have h' : 97 ≤ c := h
      unfold dig
      rw [if_pos h', UInt8.toNat_add, UInt8.toNat_sub_of_le _ _ h']
      have e1 : (97 : UInt8).toNat = 97 := rfl
      have e2 : (10 : UInt8).toNat = 10 := rfl
      rw [e1, e2]
      omega
    rw [hd]
    clear hd
    generalize c.toNat = n at *
    go_enter Tryd.func70, Tryd.ntmps70
    go_wp2
    go_ret
    exact ⟨rfl, rfl⟩
  · have hd : ((dig c).toNat : Int) = ((c.toNat : Int) - 48) % 256 := by
      have h' : ¬ 97 ≤ c := h
      unfold dig
      rw [if_neg h', UInt8.toNat_sub]
      have e1 : (48 : UInt8).toNat = 48 := rfl
      rw [e1]
      omega
    rw [hd]
    clear hd
    generalize c.toNat = n at *
    go_enter Tryd.func70, Tryd.ntmps70
    go_wp2
    go_ret
    exact ⟨rfl, rfl⟩
theorem Rd.one (w : World) (e : TypeId) (y : Value) : Rd (w.alloc (.cells #[y] e)) (some ⟨w.heap.size, 0, none⟩) [y] := fun i hi => by
  have : i = 0 := by simp at hi; omega
  subst this
  exact ⟨_, 0, rfl, by rw [Nat.zero_add, cell_of_row _ _ 0 #[y] e (0, 0) (heap_alloc_new w _)]; rfl⟩
/-- the bytes of a text of hexadecimal digits -/
def hexL (l : List UInt8) : List UInt8 := (List.range (l.length / 2)).map fun k => dig (l.getD (2 * k) 0) * 16 + dig (l.getD (2 * k + 1) 0)
theorem hexL_length (l : List UInt8) : (hexL l).length = l.length / 2 := by simp [hexL]

theorem hex_byte (a b : UInt8) : Value.int .u8 (IntKind.u8.wrap (IntKind.u8.wrap ((a.toNat : Int) * 16) + (b.toNat : Int))) = bv (a * 16 + b) := by
  unfold bv
  rw [IntKind.wrap_u8', IntKind.wrap_u8', UInt8.toNat_add, UInt8.toNat_mul]
  all_goals rfl
theorem byte_at (s : ByteArray) {i : Nat} (h : i < s.size) : s.data.toList.getD i 0 = s[i] := by
  have h' : i < s.data.toList.length := by simpa using h
  rw [List.getD_eq_getElem?_getD, List.getElem?_eq_getElem h']
  rfl
theorem hexL_at (s : ByteArray) {k : Nat} (hk : k < s.size / 2) (h1 : 2 * k < s.size) (h2 : 2 * k + 1 < s.size) (h : k < (hexL s.data.toList).length) : (hexL s.data.toList)[k] = dig s[2 * k] * 16 + dig s[2 * k + 1] := by
  simp only [hexL, List.getElem_map, List.getElem_range, byte_at s h1, byte_at s h2]
set_option maxRecDepth 100000 in
set_option maxHeartbeats 2000000 in
theorem unhex_any (w : World) (s : ByteArray) (hs : s.size ≤ 1000000) : Calls Tryd.prog 58 #[.string s] w fun e w' => ∃ A c, e = .returned (.slice A (s.size / 2) c) ∧ w'.ownsRow w.heap.size 5 1 (.slice A (s.size / 2) c) (s.size / 2) ((hexL s.data.toList).map bv) ∧ Frm noB w w' := by
  obtain ⟨H, hH⟩ : ∃ H, H = hexL s.data.toList := ⟨_, rfl⟩
  have hHl : H.length = s.size / 2 := by rw [hH, hexL_length]; rfl
  have HL := Lib.hid hHl
  have HH := Lib.hid hH
  rw [← hH]
  clear hHl hH
  go_enter Tryd.func58, Tryd.ntmps58
  go_wp2_with fail
  go_loopw [3, 4] (fun v i wr => ∃ k : Nat, k ≤ s.size / 2 ∧ i = .int .i64 (2 * (k : Int)) ∧ wr.ownsRow w.heap.size 5 1 v k ((H.take k).map bv) ∧ Frm noB w wr) (fun _ i _ => s.size - (intOf i).toNat)
  case atStart => exact ⟨0, Nat.zero_le _, rfl, World.ownsRow_nil _ _ _ _, Frm.refl _ _⟩
  case round =>
    obtain ⟨k, hk, rfl, hown, hF⟩ := hrel
    obtain ⟨Av, cv, rfl, _⟩ := own_slice hown
    have HO := Lib.hid hown
    have HF := Lib.hid hF
    have hsz := hF.size
    clear hown hF
    by_cases hlt : k < s.size / 2
    · have h1 : 2 * k < s.size := by omega
      have h2 : 2 * k + 1 < s.size := by omega
      go_wp2_with fail
      have hw1 : IntKind.i64.wrap (2 * (k : Int) + 1) = 2 * k + 1 := IntWalk.i64_in _ (by omega)
      have q0 : (0 : Int) ≤ 2 * (k : Int) := by omega
      have q1 : (0 : Int) ≤ 2 * (k : Int) + 1 := by omega
      have q2 : (2 * (k : Int)).toNat = 2 * k := by omega
      have q3 : (2 * (k : Int) + 1).toNat = 2 * k + 1 := by omega
      have q4 : 2 * (k : Int) < s.size := by omega
      have q5 : 2 * (k : Int) + 1 < s.size := by omega
      go_region_held3 (fun _ => True) (trivial) ((first | (go_simp; go_at_call 70; refine (digit_any _ _).mono ?_; rintro _ _ ⟨rfl, rfl⟩) | (refine step_app info29 (by rfl) w.heap.size (own_frm' HO.out ((Frm.refl noB wr).alloc _).drew) _ _ (by rfl) (by rfl) (by rfl) (by rfl) (Rd.one wr _ _).drew (by simp [Value.oneCell']) (by omega) (by omega) (by simp; omega) ?_; intro A2 c2 w2 ho2 hc2 hf2 hv2; have HO2 := Lib.hid ho2; have HF2 := Lib.hid hf2; clear ho2 hf2 hv2 hc2)))
      all_goals
        have hkH : k < H.length := by rw [HL.out]; exact hlt
        have e : H[k] = dig s[2 * k] * 16 + dig s[2 * k + 1] := by
          have := HH.out
          subst this
          exact hexL_at s hlt h1 h2 hkH
        have hO2 := HO2.out
        rw [hex_byte, ← e, ← List.map_singleton, ← List.map_append, ← List.take_succ_eq_append_getElem hkH] at hO2
        have HO3 := Lib.hid hO2
        have HF3 : Hid (Frm noB w w2) := Lib.hid (((HF.out.alloc _).drew).trans HF2.out fun j hj h => by have := (own_lt HO.out j h).1; omega)
        clear hO2 e hkH HO2 HF2
        go_wp2_with fail
        exact ⟨⟨k + 1, by omega, by simp; omega, HO3.out, HF3.out⟩, by simp [intOf]; omega⟩
    · have e : k = s.size / 2 := by omega
      have hx : ¬ (2 * (k : Int) + 1 < s.size) := by omega
      have HR : Hid (wr.ownsRow w.heap.size 5 1 (.slice Av k cv) k (H.map bv)) := Lib.hid (by
        have := HO.out
        rwa [List.take_of_length_le (by rw [HL.out]; omega)] at this)
      have HE := Lib.hid e
      clear HO e
      go_wp2_with fail
      go_ret
      rw [← HE.out]
      exact ⟨_, _, rfl, HR.out, HF.out⟩

theorem unhex_n (w : World) (s : ByteArray) (n : Nat) (hn : s.size / 2 = n) (hs : s.size ≤ 1000000) : Calls Tryd.prog 58 #[.string s] w fun e w' => ∃ A c, e = .returned (.slice A n c) ∧ w'.ownsRow w.heap.size 5 1 (.slice A n c) n ((hexL s.data.toList).map bv) ∧ Frm noB w w' := by
  subst hn
  exact unhex_any w s hs

set_option maxRecDepth 100000 in
set_option maxHeartbeats 2000000 in
theorem is_any (w : World) (mt : List UInt8) (s : ByteArray) (hs : s.size = 64) (he : hexL s.data.toList = sha mt) : Calls Tryd.prog 59 #[.agg (arr 32 (shaAt mt)), .string s] w fun e w' => e = .returned (.bool true) ∧ Frm noB w w' := by
  have HU := Lib.hid fun w => unhex_n w s 32 (by omega) (by omega)
  obtain ⟨H, hH⟩ : ∃ H, H = sha mt := ⟨_, rfl⟩
  have hHl : H.length = 32 := by rw [hH, sha_length]
  have HL := Lib.hid hHl
  have HH := Lib.hid hH
  rw [he, ← hH] at HU
  have hb0 := Blk.new w 26 (arr 32 (shaAt mt))
  have hf0 : Frm noB w (w.alloc (.cells (arr 32 (shaAt mt)) 26)) := (Frm.refl _ _).alloc _
  clear hHl hH he hs
  go_enter Tryd.func59, Tryd.ntmps59
  go_upto_region 1 with fail
  generalize w.alloc (.cells (arr 32 (shaAt mt)) 26) = w1 at *
  have HB0 := Lib.hid hb0
  have HF0 := Lib.hid hf0
  clear hb0 hf0
  go_wp2_with fail
  refine (HU.out w1).mono ?_
  rintro _ w2 ⟨A, c, rfl, ho, hf⟩
  have HB2 := Lib.hid (HB0.out.frm' hf)
  have HR := Lib.hid (Rd.of_own ho)
  have HF2 := Lib.hid (HF0.out.trans' hf)
  clear ho hf HB0
  try dsimp only
  go_wp2_with fail
  go_loopw [6] (fun i wr => ∃ k n : Nat, k ≤ 32 ∧ i = .int .i64 k ∧ wr = w2.drewN n) (fun i _ => 32 - (intOf i).toNat)
  case atStart => exact ⟨0, 0, Nat.zero_le _, rfl, rfl⟩
  case round =>
    obtain ⟨k, n, hk, rfl, hw0⟩ := hrel
    have HWr := Lib.hid hw0
    have HBr : Hid (Blk wr w.heap.size 26 (arr 32 (shaAt mt))) := Lib.hid (hw0 ▸ HB2.out.drewN n)
    have HRr : Hid (Rd wr A (H.map bv)) := Lib.hid (hw0 ▸ HR.out.drewN n)
    clear hw0
    by_cases hlt : k < 32
    · have hkH : k < H.length := by rw [HL.out]; exact hlt
      have c0 : wr.cell? ⟨w.heap.size, k, none⟩ = some (.int .u8 (((sha mt).getD k 0).toNat : Int)) := HBr.out.at_ hlt
      obtain ⟨b, o, e, c1⟩ := HRr.out.b hkH
      have hx : (sha mt).getD k 0 = H[k] := by rw [← HH.out]; simp [List.getD, hkH]
      rw [hx] at c0
      generalize H[k] = x at *
      subst e
      have q0 : (0 : Int) ≤ (k : Int) := Int.natCast_nonneg _
      have q3 : (k : Int) < 32 := by omega
      have hne : ((x.toNat : Int) != (x.toNat : Int)) = false := by simp
      clear hx hkH
      go_wp2_with fail
      go_quiet (fail)
      go_wp2_with fail
      exact ⟨⟨k + 1, n + nq, by omega, by go_num, by rw [HWr.out]; simp⟩, by simp [intOf]; omega⟩
    · have hF : Frm noB w wr := by have := HF2.out.drewN n; rwa [← HWr.out] at this
      have HF := Lib.hid hF
      clear hF
      go_wp2_with fail
      go_ret
      exact ⟨rfl, HF.out⟩

end Go.Proofs.YtkhakddecmgejaaDoor
