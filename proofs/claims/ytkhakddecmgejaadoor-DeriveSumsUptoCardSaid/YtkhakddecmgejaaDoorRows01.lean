/-
  trystref01: Twins, Rows.
-/
import Derived.Test.YtkhakddecmgejaaDoorLawFrames
import Derived.Test.YtkhakddecmgejaaDoorPush
namespace Go.Proofs.YtkhakddecmgejaaDoor
open Go.RowKit
set_option linter.unusedVariables false
set_option linter.unusedSimpArgs false

set_option maxRecDepth 100000 in
set_option maxHeartbeats 1000000 in
theorem twins_any (w : World) (A : Option Addr) (xss : List (List UInt8)) (c : Nat) {N : Nat → Prop} (hx : RdRows w A xss N) (h1 : xss.length ≤ 2000000) (h2 : xss.flatten.length ≤ 1000000000) :
    Calls Tryd.prog 48 #[.slice A xss.length c] w fun e w' => ∃ A' c' vs, e = .returned (.slice A' xss.length c') ∧ OwnedRows w' w.heap.size (.slice A' xss.length c') vs xss ∧ Frm noB w w' := by
  have HX := Lib.hid hx
  clear hx
  go_enter Tryd.func48, Tryd.ntmps48
  go_wp2_with fail
  go_loopw [3, 4] (fun v i wr => ∃ (k : Nat) (vs : List Value), k ≤ xss.length ∧ i = .int .i64 k ∧ vs.length = k ∧ OwnedRows wr w.heap.size v vs (xss.take k) ∧ Frm noB w wr) (fun _ i _ => xss.length - (intOf i).toNat)
  case atStart => exact ⟨0, [], Nat.zero_le _, rfl, rfl, OwnedRows.nil_ _ _, Frm.refl _ _⟩
  case round =>
    obtain ⟨k, vs, hk, rfl, hvl, ho, hF⟩ := hrel
    obtain ⟨Av, cv, rfl, _⟩ := own_slice ho.row
    have HO := Lib.hid ho
    have HF := Lib.hid hF
    have HVL := Lib.hid hvl
    have hsz := hF.size
    clear ho hF hvl
    by_cases hlt : k < xss.length
    · obtain ⟨bo, o, Ai, ci, rfl, hc', hcc, hri, _, _⟩ := HX.out.at hlt
      have hc0 := HF.out.cell_some hc' (fun h => h)
      have hek := elem_le xss hlt
      have hvs : vs.length ≤ 2000000 := by have := HVL.out; omega
      have HRI := Lib.hid (hri.frm' HF.out)
      clear hri hc'
      go_wp2_with fail
      refine (twin_any wr Ai xss[k] ci HRI.out (by omega)).mono ?_
      rintro _ w1 ⟨A1, c1, rfl, ho1, hf1⟩
      have HO1 := Lib.hid ho1
      have HF1 := Lib.hid hf1
      have hs1 := hf1.size
      clear ho1 hf1 hc0
      try dsimp only
      go_wp2_with (at_builtin; refine app1N info23 rfl w.heap.size (own_frm' HO.out.row HF1.out) (.tmp 11) (.tmp 17) rfl rfl rfl rfl rfl (vs.length + 1) rfl _ rfl (by omega) (by omega) (by omega) ?_; intro A2 c2 w2 ho2 hc2 hf2 hv2; have HO2 := Lib.hid ho2; have HF2 := Lib.hid hf2; clear ho2 hf2 hv2 hc2)
      have hgb : ∀ q, oB (.slice Av vs.length cv) q → w.heap.size ≤ q := fun q hq => (own_lt HO.out.row q hq).1
      refine ⟨⟨k + 1, vs ++ [Value.slice A1 xss[k].length c1], by omega, by go_num, ?_, ?_, (HF.out.trans' HF1.out).trans HF2.out fun q hq h => by have := hgb q h; omega⟩, by simp [intOf]; omega⟩
      · simp [HVL.out]
      · have h := HO.out.push hsz HF1.out HO1.out HO2.out HF2.out
        rwa [← List.take_succ_eq_append_getElem hlt] at h
    · have e : k = xss.length := by omega
      subst e
      have HO' : Hid (OwnedRows wr w.heap.size (.slice Av xss.length cv) vs xss) := Lib.hid (by
        have h := HO.out
        rwa [HVL.out, List.take_length] at h)
      have hv := HVL.out
      go_wp2_with fail
      go_ret
      exact ⟨Av, cv, vs, by rw [hv]; rfl, HO'.out, HF.out⟩

/-- the lists of Rows, one behind the other -/
def rowsL (xss : List (List UInt8)) : List UInt8 := (xss.map lentL).flatten
theorem rowsL_length (xss : List (List UInt8)) : (rowsL xss).length = xss.flatten.length + 64 * xss.length := by
  unfold rowsL
  induction xss with
  | nil => rfl
  | cons x xs ih => simp only [List.map_cons, List.flatten_cons, List.length_append, lentL_length, List.length_cons, ih]; omega
theorem rowsL_take (xss : List (List UInt8)) {k : Nat} (h : k < xss.length) : rowsL (xss.take (k + 1)) = rowsL (xss.take k) ++ lentL xss[k] := by
  unfold rowsL
  rw [List.take_succ_eq_append_getElem h, List.map_append, List.flatten_append]
  simp

set_option maxRecDepth 100000 in
set_option maxHeartbeats 1000000 in
theorem rows_any (w : World) (A : Option Addr) (xss : List (List UInt8)) (c : Nat) {N : Nat → Prop} (hx : RdRows w A xss N) (h1 : xss.length ≤ 2000000) (h2 : xss.flatten.length ≤ 1000000000) :
    Calls Tryd.prog 42 #[.slice A xss.length c] w fun e w' => ∃ A' c', e = .returned (.slice A' (rowsL xss).length c') ∧ w'.ownsRow w.heap.size 5 1 (.slice A' (rowsL xss).length c') (rowsL xss).length ((rowsL xss).map bv) ∧ Frm noB w w' := by
  have HX := Lib.hid hx
  clear hx
  go_enter Tryd.func42, Tryd.ntmps42
  go_wp2_with fail
  go_loopw [3, 4] (fun v i wr => ∃ (k m : Nat), k ≤ xss.length ∧ i = .int .i64 k ∧ (rowsL (xss.take k)).length = m ∧ wr.ownsRow w.heap.size 5 1 v m ((rowsL (xss.take k)).map bv) ∧ Frm noB w wr) (fun _ i _ => xss.length - (intOf i).toNat)
  case atStart => exact ⟨0, 0, Nat.zero_le _, rfl, rfl, World.ownsRow_nil _ _ _ _, Frm.refl _ _⟩
  case round =>
    obtain ⟨k, m, hk, rfl, hml, ho, hF⟩ := hrel
    obtain ⟨Av, cv, rfl, _⟩ := own_slice ho
    have HO := Lib.hid ho
    have HF := Lib.hid hF
    have HML := Lib.hid hml
    have hsz := hF.size
    clear ho hF hml
    by_cases hlt : k < xss.length
    · obtain ⟨bo, o, Ai, ci, rfl, hc', hcc, hri, _, _⟩ := HX.out.at hlt
      have hc0 := HF.out.cell_some hc' (fun h => h)
      have hek := elem_le xss hlt
      have hmb : m + (xss[k].length + 64) ≤ 2000000000 := by
        have h := rowsL_length (xss.take (k + 1))
        have h' := flat_le xss (k + 1)
        rw [rowsL_take xss hlt, List.length_append, HML.out, lentL_length, List.length_take] at h
        omega
      have HRI := Lib.hid (hri.frm' HF.out)
      clear hri hc'
      go_wp2_with fail
      refine (lent_any wr Ai xss[k] ci HRI.out (by omega)).mono ?_
      rintro _ w1 ⟨A1, c1, rfl, ho1, hf1⟩
      have HO1 := Lib.hid (Rd.of_own ho1)
      have HF1 := Lib.hid hf1
      have hs1 := hf1.size
      have HYS : Hid ((rowsL (xss.take k)).map bv ++ (lentL xss[k]).map bv = (rowsL (xss.take (k + 1))).map bv) := Lib.hid (by rw [rowsL_take xss hlt, List.map_append])
      have HNL : Hid (((lentL xss[k]).map bv).length = xss[k].length + 64) := Lib.hid (by rw [List.length_map, lentL_length])
      clear ho1 hf1 hc0
      try dsimp only
      go_wp2_with (at_builtin; refine appN info29 rfl w.heap.size (own_frm' HO.out HF1.out) (.tmp 11) (.tmp 16) rfl rfl rfl HNL.out HO1.out (bv_one _) (m + (xss[k].length + 64)) rfl _ HYS.out (by omega) (by omega) (by omega) ?_; intro A2 c2 w2 ho2 hc2 hf2 hv2; have HO2 := Lib.hid ho2; have HF2 := Lib.hid hf2; clear ho2 hf2 hv2 hc2)
      have hgb : ∀ q, oB (.slice Av m cv) q → w.heap.size ≤ q := fun q hq => (own_lt HO.out q hq).1
      refine ⟨⟨k + 1, m + (xss[k].length + 64), by omega, by go_num, ?_, HO2.out, (HF.out.trans' HF1.out).trans HF2.out fun q hq h => by have := hgb q h; omega⟩, by simp [intOf]; omega⟩
      rw [rowsL_take xss hlt, List.length_append, HML.out, lentL_length]
    · have e : k = xss.length := by omega
      subst e
      have hm : m = (rowsL xss).length := by have := HML.out; rw [List.take_length] at this; exact this.symm
      have HO' : Hid (wr.ownsRow w.heap.size 5 1 (.slice Av (rowsL xss).length cv) (rowsL xss).length ((rowsL xss).map bv)) := Lib.hid (by
        have h := HO.out
        rwa [hm, List.take_length] at h)
      clear HML HO
      have HM := Lib.hid hm
      clear hm
      go_wp2_with fail
      go_ret
      exact ⟨Av, cv, by rw [HM.out]; rfl, HO'.out, HF.out⟩

/-- where row i of Rows begins -/
def atL (xss : List (List UInt8)) (i : Nat) : Nat := (rowsL (xss.take i)).length
theorem atL_succ (xss : List (List UInt8)) {k : Nat} (h : k < xss.length) : atL xss (k + 1) = atL xss k + xss[k].length + 64 := by
  unfold atL
  rw [rowsL_take xss h, List.length_append, lentL_length]; omega
theorem atL_le (xss : List (List UInt8)) (k : Nat) : atL xss k ≤ (rowsL xss).length := by
  unfold atL
  rw [rowsL_length, rowsL_length]
  have := flat_le xss k
  have h : (xss.take k).length ≤ xss.length := by rw [List.length_take]; omega
  omega
/-- row i of Cut -/
def cutV (F : Option Addr) (c : Nat) (xss : List (List UInt8)) (i : Nat) : Value := .slice (F.map fun x => x.add (atL xss i)) (xss.getD i []).length (c - atL xss i)

set_option maxRecDepth 100000 in
set_option maxHeartbeats 1000000 in
theorem cut_any (w : World) (F B : Option Addr) (xss : List (List UInt8)) (n c d : Nat) {N : Nat → Prop} (hx : RdRows w B xss N) (hn : (rowsL xss).length = n) (hc : n ≤ c) (h1 : xss.length ≤ 2000000) (h2 : xss.flatten.length ≤ 1000000000) :
    Calls Tryd.prog 43 #[.slice F n c, .slice B xss.length d] w fun e w' => ∃ A' c', e = .returned (.slice A' xss.length c') ∧ w'.ownsRow w.heap.size 29 1 (.slice A' xss.length c') xss.length ((List.range xss.length).map (cutV F c xss)) ∧ Frm noB w w' := by
  have HX := Lib.hid hx
  have HN := Lib.hid hn
  have hnb : n ≤ 2000000000 := by have := rowsL_length xss; omega
  clear hx hn
  go_enter Tryd.func43, Tryd.ntmps43
  go_wp2_with fail
  go_loopw [5, 6, 7] (fun v va i wr => ∃ (k a : Nat), k ≤ xss.length ∧ i = .int .i64 k ∧ va = .int .i64 a ∧ atL xss k = a ∧ wr.ownsRow w.heap.size 29 1 v k ((List.range k).map (cutV F c xss)) ∧ Frm noB w wr) (fun _ _ i _ => xss.length - (intOf i).toNat)
  case atStart => exact ⟨0, 0, Nat.zero_le _, rfl, rfl, rfl, World.ownsRow_nil _ _ _ _, Frm.refl _ _⟩
  case round =>
    obtain ⟨k, a, hk, rfl, rfl, hal, ho, hF⟩ := hrel
    obtain ⟨Av, cv, rfl, _⟩ := own_slice ho
    have HO := Lib.hid ho
    have HF := Lib.hid hF
    have HAL := Lib.hid hal
    have hsz := hF.size
    clear ho hF hal
    by_cases hlt : k < xss.length
    · obtain ⟨bo, o, Ai, ci, rfl, hc', hcc, hri, _, _⟩ := HX.out.at hlt
      have hc0 := HF.out.cell_some hc' (fun h => h)
      have hab : a + xss[k].length + 64 ≤ n := by
        have h := atL_succ xss hlt
        have h' := atL_le xss (k + 1)
        rw [HAL.out] at h
        have := HN.out
        omega
      have hac : a < c := by omega
      have HBO : Hid (bo < w.heap.size) := Lib.hid (by
        refine Decidable.byContradiction fun h => ?_
        have e : w.cell? ⟨bo, o + k, none⟩ = none := by
          unfold World.cell?
          rw [Array.getElem?_eq_none (show w.heap.size ≤ bo by omega)]
        rw [e] at hc'
        cases hc')
      have HG : Hid (cutV F c xss k = .slice (F.map fun x => x.add a) xss[k].length (c - a)) := Lib.hid (by
        unfold cutV
        rw [HAL.out]
        simp [List.getD, hlt])
      clear hri hc'
      generalize hxl : xss[k].length = xl at *
      have HXL := Lib.hid hxl
      clear hxl
      go_wp2_with (at_builtin; refine app1N info23 rfl w.heap.size HO.out (.tmp 14) (.tmp 25) rfl rfl rfl rfl rfl (k + 1) rfl _ rfl (by omega) (by omega) (by omega) ?_; intro A2 c2 w2 ho2 hc2 hf2 hv2; have HO2 := Lib.hid ho2; have HF2 := Lib.hid hf2; have hc1 := hf2.cell_some hc0 (fun h => by have h : w.heap.size ≤ bo := (own_lt HO.out _ h).1; have hbo := HBO.out; omega); clear ho2 hf2 hv2 hc2)
      have hgb : ∀ q, oB (.slice Av k cv) q → w.heap.size ≤ q := fun q hq => (own_lt HO.out q hq).1
      refine ⟨⟨k + 1, a + xl + 64, by omega, by go_num, by go_num, ?_, ?_, HF.out.trans HF2.out fun q hq h => by have := hgb q h; omega⟩, by simp [intOf]; omega⟩
      · rw [atL_succ xss hlt, HAL.out, HXL.out]
      · have h := HO2.out
        rw [← HG.out] at h
        rw [List.range_succ, List.map_append]
        exact h
    · have e : k = xss.length := by omega
      subst e
      go_wp2_with fail
      go_ret
      exact ⟨Av, cv, rfl, HO.out, HF.out⟩
end Go.Proofs.YtkhakddecmgejaaDoor
