/-
  Join, Two.
-/
import Derived.Test.YtkhakddecmgejaaDoorWorks03
namespace Go.Proofs.YtkhakddecmgejaaDoor
open Go.RowKit
set_option linter.unusedVariables false
set_option linter.unusedSimpArgs false

/-- how much is joined at most -/
def JLen (n : Nat) : Prop := n ≤ 1099511627776
theorem JLen.h {n : Nat} (h : JLen n) : HLen n := by unfold JLen at h; unfold HLen; omega
theorem JLen.l {n : Nat} (h : JLen n) : Len n := by unfold JLen at h; unfold Len; omega

set_option maxRecDepth 100000 in
set_option maxHeartbeats 2000000 in
theorem join_any (w : World) (A : Option Addr) (xss : List (List UInt8)) (c : Nat) {N : Nat → Prop} (hx : RdRows w A xss N) (hl : JLen xss.flatten.length) (hn : JLen xss.length) :
    Calls Tryd.prog 20 #[.slice A xss.length c] w fun e w' => ∃ v, e = .returned v ∧ w'.ownsRow w.heap.size 5 1 v xss.flatten.length (xss.flatten.map bv) ∧ Frm noB w w' := by
  have HX := Lib.hid hx
  unfold JLen at hl hn
  clear hx
  go_enter Tryd.func20, Tryd.ntmps20
  go_wp2
  go_loopw [3, 4] (fun v i wr => ∃ k : Nat, k ≤ xss.length ∧ i = .int .i64 k ∧ wr.ownsRow w.heap.size 5 1 v (xss.take k).flatten.length ((xss.take k).flatten.map bv) ∧ Frm noB w wr) (fun _ i _ => xss.length - (intOf i).toNat)
  case atStart => exact ⟨0, Nat.zero_le _, rfl, World.ownsRow_nil _ _ _ _, Frm.refl _ _⟩
  case round =>
    obtain ⟨k, hk, rfl, ho, hF⟩ := hrel
    obtain ⟨wq, rfl⟩ : ∃ wq : World, wq = wr := ⟨_, rfl⟩
    obtain ⟨pre, hp⟩ : ∃ pre, pre = (xss.take k).flatten := ⟨_, rfl⟩
    rw [← hp] at ho
    have HP := Lib.hid hp
    have HO := Lib.hid ho
    have HF := Lib.hid hF
    clear ho hF
    by_cases hlt : k < xss.length
    · obtain ⟨bo, o, Ai, ci, rfl, hc, hcc, hri, _, _⟩ := HX.out.at hlt
      have HRI := Lib.hid hri
      have hel := elem_le xss hlt
      have hfl := flat_le xss (k + 1)
      rw [flat_take xss hlt, List.length_append, ← hp] at hfl
      have hc0 := HF.out.cell_some hc (fun h => h)
      clear hri hp
      go_wp2_with fail
      go_loopw [3, 5] (fun v j wr => ∃ q : Nat, q ≤ xss[k].length ∧ j = .int .i64 q ∧ wr.ownsRow w.heap.size 5 1 v (pre.length + q) ((pre ++ xss[k].take q).map bv) ∧ Frm noB w wr) (fun _ j _ => xss[k].length - (intOf j).toNat)
      case atStart => exact ⟨0, Nat.zero_le _, rfl, by simpa using HO.out, HF.out⟩
      case round =>
        clear HO HF hc0
        obtain ⟨q, hq, rfl, ho, hF⟩ := hrel
        have HO := Lib.hid ho
        have HF := Lib.hid hF
        have hc1 := hF.cell_some hc (fun h => h)
        have hsz := hF.size
        clear ho hF
        by_cases hlt' : q < xss[k].length
        · obtain ⟨bi, oi, rfl, hci⟩ := HRI.out.b hlt'
          have hc2 := HF.out.cell_some hci (fun h => h)
          clear hc hci
          go_wp2_with (at_builtin; refine app1 info29 rfl w.heap.size HO.out _ _ rfl rfl rfl rfl (by omega) (by omega) hsz ?_; intro A' c' w' ho' hcc' hf' hv'; have HO' := Lib.hid ho'; have HF' := Lib.hid hf'; clear ho' hf' hv' hcc')
          refine ⟨⟨q + 1, by omega, by go_num, ?_, HF.out.trans HF'.out fun j hj h => absurd (own_lt HO.out j h).1 (Nat.not_le.2 hj)⟩, by simp [intOf]; omega⟩
          rw [List.take_succ_eq_append_getElem hlt', ← List.append_assoc, List.map_append]
          exact HO'.out
        · have e : q = xss[k].length := by omega
          subst e
          go_wp2_with fail
          refine ⟨⟨k + 1, by omega, by go_num, ?_, HF.out⟩, by simp [intOf]; omega⟩
          rw [flat_take xss hlt, List.length_append, ← HP.out]
          have := HO.out
          rwa [List.take_length] at this
    · have e : k = xss.length := by omega
      subst e
      have HO' : Hid (wq.ownsRow w.heap.size 5 1 _ xss.flatten.length (xss.flatten.map bv)) := Lib.hid (by have := HO.out; rw [HP.out, List.take_length] at this; exact this)
      clear HO hp
      go_wp2_with fail
      go_ret
      exact ⟨_, rfl, HO'.out, HF.out⟩

/-- rows of a slice that has just been laid, over lists that lie elsewhere -/
theorem RdRows.laid {w : World} (vs : List Value) (xss : List (List UInt8)) {N : Nat → Prop} (hl : vs.length = xss.length) (h : ∀ i (h : i < xss.length) (h' : i < vs.length), ∃ A' c, vs[i] = .slice A' xss[i].length c ∧ xss[i].length ≤ c ∧ Rd w A' (xss[i].map bv) ∧ (xss[i] ≠ [] → ∀ k, aB A' k → N k)) :
    RdRows (w.alloc (.cells vs.toArray 29)) (some ⟨w.heap.size, 0, none⟩) xss (fun k => N k ∨ k = w.heap.size) := by
  refine ⟨vs, fun i hi => ⟨_, _, rfl, by rw [Nat.zero_add, cell_of_row _ _ _ _ _ _ (heap_alloc_new w _)]; simp only [List.getElem?_toArray, List.getElem?_eq_getElem hi]⟩, hl, fun i hi hi' => ?_, fun _ k ⟨x, hx, hk⟩ => ?_⟩
  · obtain ⟨A', c, e, hc, hr, hn⟩ := h i hi hi'
    exact ⟨A', c, e, hc, hr.alloc _, fun hne k hk => .inl (hn hne k hk)⟩
  · cases hx
    exact .inr hk.symm

set_option maxRecDepth 100000 in
set_option maxHeartbeats 1000000 in
theorem two_any (w : World) (A B : Option Addr) (a b : List UInt8) (c d : Nat) (ha : Rd w A (a.map bv)) (hb : Rd w B (b.map bv)) (hc : a.length ≤ c) (hd : b.length ≤ d) (hl : JLen (a ++ b).length) :
    Calls Tryd.prog 31 #[.slice A a.length c, .slice B b.length d] w fun e w' => ∃ v, e = .returned v ∧ w'.ownsRow w.heap.size 5 1 v (a ++ b).length ((a ++ b).map bv) ∧ Frm noB w w' := by
  have hR : RdRows (w.alloc (.cells #[.slice A a.length c, .slice B b.length d] 29)) (some ⟨w.heap.size, 0, none⟩) [a, b] (fun k => True ∨ k = w.heap.size) :=
    RdRows.laid [.slice A a.length c, .slice B b.length d] [a, b] rfl fun i hi hi' => by
      match i, hi with
      | 0, _ => exact ⟨_, _, rfl, hc, ha, fun _ _ _ => trivial⟩
      | 1, _ => exact ⟨_, _, rfl, hd, hb, fun _ _ _ => trivial⟩
  have hfl : ([a, b] : List (List UInt8)).flatten = a ++ b := by simp
  have HR := Lib.hid hR
  have HL := Lib.hid hl
  have HFL := Lib.hid hfl
  clear ha hb hc hd hR hl hfl
  go_enter Tryd.func31, Tryd.ntmps31
  go_wp2_with fail
  refine (join_any _ (some ⟨w.heap.size, 0, none⟩) [a, b] 2 HR.out (by rw [HFL.out]; exact HL.out) (by unfold JLen; simp)).mono ?_
  rintro e w2 ⟨v, rfl, ho, hf⟩
  rw [HFL.out] at ho
  have HO := Lib.hid ho
  have HF := Lib.hid (((Frm.refl noB w).alloc (.cells #[.slice A a.length c, .slice B b.length d] 29)).trans' hf)
  clear ho hf
  try dsimp only
  go_wp2_with fail
  go_ret
  exact ⟨v, rfl, own_base HO.out fun k hk => by have := (own_lt HO.out k hk).1; simp at this; omega, HF.out⟩
end Go.Proofs.YtkhakddecmgejaaDoor
