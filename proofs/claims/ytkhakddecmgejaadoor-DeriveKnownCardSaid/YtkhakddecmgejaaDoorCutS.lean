/-
  Rows, Cut and Twins of trystref01; the lists of Rows in one memory.
  What Cut gave, while its lists are written over in their one memory.
-/
import Derived.Test.YtkhakddecmgejaaDoorLawFrames
import Derived.Test.YtkhakddecmgejaaDoorPush
namespace Go.Proofs.YtkhakddecmgejaaDoor
open Go.RowKit
set_option linter.unusedVariables false
set_option linter.unusedSimpArgs false

set_option maxRecDepth 100000 in
set_option maxHeartbeats 1000000 in
theorem twins_any (w : World) (A : Option Addr) (xss : List (List UInt8)) (c : Nat) {N : Nat → Prop} (hx : RdRows w A xss N) (h1 : xss.length ≤ 2000000) (h2 : xss.flatten.length ≤ 1000000000) :
    Calls Tryd.prog 48 #[.slice A xss.length c] w fun e w' => ∃ A' c' vs, e = .returned (.slice A' xss.length c') ∧ OwnedRows w' w.heap.size (.slice A' xss.length c') vs xss ∧ Frm noB w w' := by
  have HX := Lib.hid hx
  clear hx
  go_enter Tryd.func48, Tryd.ntmps48
  go_wp2_with fail
  go_loopw [3, 4] (fun v i wr => ∃ (k : Nat) (vs : List Value), k ≤ xss.length ∧ i = .int .i64 k ∧ vs.length = k ∧ OwnedRows wr w.heap.size v vs (xss.take k) ∧ Frm noB w wr) (fun _ i _ => xss.length - (intOf i).toNat)
  case atStart => exact ⟨0, [], Nat.zero_le _, rfl, rfl, OwnedRows.nil_ _ _, Frm.refl _ _⟩
  case round =>
    obtain ⟨k, vs, hk, rfl, hvl, ho, hF⟩ := hrel
    obtain ⟨Av, cv, rfl, _⟩ := own_slice ho.row
    have HO := Lib.hid ho
    have HF := Lib.hid hF
    have HVL := Lib.hid hvl
    have hsz := hF.size
    clear ho hF hvl
    by_cases hlt : k < xss.length
    · obtain ⟨bo, o, Ai, ci, rfl, hc', hcc, hri, _, _⟩ := HX.out.at hlt
      have hc0 := HF.out.cell_some hc' (fun h => h)
      have hek := elem_le xss hlt
      have hvs : vs.length ≤ 2000000 := by have := HVL.out; omega
      have HRI := Lib.hid (hri.frm' HF.out)
      clear hri hc'
      go_wp2_with fail
      refine (twin_any wr Ai xss[k] ci HRI.out (by omega)).mono ?_
      rintro _ w1 ⟨A1, c1, rfl, ho1, hf1⟩
      have HO1 := Lib.hid ho1
      have HF1 := Lib.hid hf1
      have hs1 := hf1.size
      clear ho1 hf1 hc0
      try dsimp only
      go_wp2_with (at_builtin; refine app1N info23 rfl w.heap.size (own_frm' HO.out.row HF1.out) (.tmp 11) (.tmp 17) rfl rfl rfl rfl rfl (vs.length + 1) rfl _ rfl (by omega) (by omega) (by omega) ?_; intro A2 c2 w2 ho2 hc2 hf2 hv2; have HO2 := Lib.hid ho2; have HF2 := Lib.hid hf2; clear ho2 hf2 hv2 hc2)
      have hgb : ∀ q, oB (.slice Av vs.length cv) q → w.heap.size ≤ q := fun q hq => (own_lt HO.out.row q hq).1
      refine ⟨⟨k + 1, vs ++ [Value.slice A1 xss[k].length c1], by omega, by go_num, ?_, ?_, (HF.out.trans' HF1.out).trans HF2.out fun q hq h => by have := hgb q h; omega⟩, by simp [intOf]; omega⟩
      · simp [HVL.out]
      · have h := HO.out.push hsz HF1.out HO1.out HO2.out HF2.out
        rwa [← List.take_succ_eq_append_getElem hlt] at h
    · have e : k = xss.length := by omega
      subst e
      have HO' : Hid (OwnedRows wr w.heap.size (.slice Av xss.length cv) vs xss) := Lib.hid (by
        have h := HO.out
        rwa [HVL.out, List.take_length] at h)
      have hv := HVL.out
      go_wp2_with fail
      go_ret
      exact ⟨Av, cv, vs, by rw [hv]; rfl, HO'.out, HF.out⟩

/-- the lists of Rows, one behind the other -/
def rowsL (xss : List (List UInt8)) : List UInt8 := (xss.map lentL).flatten
theorem rowsL_length (xss : List (List UInt8)) : (rowsL xss).length = xss.flatten.length + 64 * xss.length := by
  unfold rowsL
  induction xss with
  | nil => rfl
  | cons x xs ih => simp only [List.map_cons, List.flatten_cons, List.length_append, lentL_length, List.length_cons, ih]; omega
theorem rowsL_take (xss : List (List UInt8)) {k : Nat} (h : k < xss.length) : rowsL (xss.take (k + 1)) = rowsL (xss.take k) ++ lentL xss[k] := by
  unfold rowsL
  rw [List.take_succ_eq_append_getElem h, List.map_append, List.flatten_append]
  simp

set_option maxRecDepth 100000 in
set_option maxHeartbeats 1000000 in
theorem rows_any (w : World) (A : Option Addr) (xss : List (List UInt8)) (c : Nat) {N : Nat → Prop} (hx : RdRows w A xss N) (h1 : xss.length ≤ 2000000) (h2 : xss.flatten.length ≤ 1000000000) :
    Calls Tryd.prog 42 #[.slice A xss.length c] w fun e w' => ∃ A' c', e = .returned (.slice A' (rowsL xss).length c') ∧ w'.ownsRow w.heap.size 5 1 (.slice A' (rowsL xss).length c') (rowsL xss).length ((rowsL xss).map bv) ∧ Frm noB w w' := by
  have HX := Lib.hid hx
  clear hx
  go_enter Tryd.func42, Tryd.ntmps42
  go_wp2_with fail
  go_loopw [3, 4] (fun v i wr => ∃ (k m : Nat), k ≤ xss.length ∧ i = .int .i64 k ∧ (rowsL (xss.take k)).length = m ∧ wr.ownsRow w.heap.size 5 1 v m ((rowsL (xss.take k)).map bv) ∧ Frm noB w wr) (fun _ i _ => xss.length - (intOf i).toNat)
  case atStart => exact ⟨0, 0, Nat.zero_le _, rfl, rfl, World.ownsRow_nil _ _ _ _, Frm.refl _ _⟩
  case round =>
    obtain ⟨k, m, hk, rfl, hml, ho, hF⟩ := hrel
    obtain ⟨Av, cv, rfl, _⟩ := own_slice ho
    have HO := Lib.hid ho
    have HF := Lib.hid hF
    have HML := Lib.hid hml
    have hsz := hF.size
    clear ho hF hml
    by_cases hlt : k < xss.length
    · obtain ⟨bo, o, Ai, ci, rfl, hc', hcc, hri, _, _⟩ := HX.out.at hlt
      have hc0 := HF.out.cell_some hc' (fun h => h)
      have hek := elem_le xss hlt
      have hmb : m + (xss[k].length + 64) ≤ 2000000000 := by
        have h := rowsL_length (xss.take (k + 1))
        have h' := flat_le xss (k + 1)
        rw [rowsL_take xss hlt, List.length_append, HML.out, lentL_length, List.length_take] at h
        omega
      have HRI := Lib.hid (hri.frm' HF.out)
      clear hri hc'
      go_wp2_with fail
      refine (lent_any wr Ai xss[k] ci HRI.out (by omega)).mono ?_
      rintro _ w1 ⟨A1, c1, rfl, ho1, hf1⟩
      have HO1 := Lib.hid (Rd.of_own ho1)
      have HF1 := Lib.hid hf1
      have hs1 := hf1.size
      have HYS : Hid ((rowsL (xss.take k)).map bv ++ (lentL xss[k]).map bv = (rowsL (xss.take (k + 1))).map bv) := Lib.hid (by rw [rowsL_take xss hlt, List.map_append])
      have HNL : Hid (((lentL xss[k]).map bv).length = xss[k].length + 64) := Lib.hid (by rw [List.length_map, lentL_length])
      clear ho1 hf1 hc0
      try dsimp only
      go_wp2_with (at_builtin; refine appN info29 rfl w.heap.size (own_frm' HO.out HF1.out) (.tmp 11) (.tmp 16) rfl rfl rfl HNL.out HO1.out (bv_one _) (m + (xss[k].length + 64)) rfl _ HYS.out (by omega) (by omega) (by omega) ?_; intro A2 c2 w2 ho2 hc2 hf2 hv2; have HO2 := Lib.hid ho2; have HF2 := Lib.hid hf2; clear ho2 hf2 hv2 hc2)
      have hgb : ∀ q, oB (.slice Av m cv) q → w.heap.size ≤ q := fun q hq => (own_lt HO.out q hq).1
      refine ⟨⟨k + 1, m + (xss[k].length + 64), by omega, by go_num, ?_, HO2.out, (HF.out.trans' HF1.out).trans HF2.out fun q hq h => by have := hgb q h; omega⟩, by simp [intOf]; omega⟩
      rw [rowsL_take xss hlt, List.length_append, HML.out, lentL_length]
    · have e : k = xss.length := by omega
      subst e
      have hm : m = (rowsL xss).length := by have := HML.out; rw [List.take_length] at this; exact this.symm
      have HO' : Hid (wr.ownsRow w.heap.size 5 1 (.slice Av (rowsL xss).length cv) (rowsL xss).length ((rowsL xss).map bv)) := Lib.hid (by
        have h := HO.out
        rwa [hm, List.take_length] at h)
      clear HML HO
      have HM := Lib.hid hm
      clear hm
      go_wp2_with fail
      go_ret
      exact ⟨Av, cv, by rw [HM.out]; rfl, HO'.out, HF.out⟩

/-- where row i of Rows begins -/
def atL (xss : List (List UInt8)) (i : Nat) : Nat := (rowsL (xss.take i)).length
theorem atL_succ (xss : List (List UInt8)) {k : Nat} (h : k < xss.length) : atL xss (k + 1) = atL xss k + xss[k].length + 64 := by
  unfold atL
  rw [rowsL_take xss h, List.length_append, lentL_length]; omega
theorem atL_le (xss : List (List UInt8)) (k : Nat) : atL xss k ≤ (rowsL xss).length := by
  unfold atL
  rw [rowsL_length, rowsL_length]
  have := flat_le xss k
  have h : (xss.take k).length ≤ xss.length := by rw [List.length_take]; omega
  omega
/-- row i of Cut -/
def cutV (F : Option Addr) (c : Nat) (xss : List (List UInt8)) (i : Nat) : Value := .slice (F.map fun x => x.add (atL xss i)) (xss.getD i []).length (c - atL xss i)

set_option maxRecDepth 100000 in
set_option maxHeartbeats 1000000 in
theorem cut_any (w : World) (F B : Option Addr) (xss : List (List UInt8)) (n c d : Nat) {N : Nat → Prop} (hx : RdRows w B xss N) (hn : (rowsL xss).length = n) (hc : n ≤ c) (h1 : xss.length ≤ 2000000) (h2 : xss.flatten.length ≤ 1000000000) :
    Calls Tryd.prog 43 #[.slice F n c, .slice B xss.length d] w fun e w' => ∃ A' c', e = .returned (.slice A' xss.length c') ∧ w'.ownsRow w.heap.size 29 1 (.slice A' xss.length c') xss.length ((List.range xss.length).map (cutV F c xss)) ∧ Frm noB w w' := by
  have HX := Lib.hid hx
  have HN := Lib.hid hn
  have hnb : n ≤ 2000000000 := by have := rowsL_length xss; omega
  clear hx hn
  go_enter Tryd.func43, Tryd.ntmps43
  go_wp2_with fail
  go_loopw [5, 6, 7] (fun v va i wr => ∃ (k a : Nat), k ≤ xss.length ∧ i = .int .i64 k ∧ va = .int .i64 a ∧ atL xss k = a ∧ wr.ownsRow w.heap.size 29 1 v k ((List.range k).map (cutV F c xss)) ∧ Frm noB w wr) (fun _ _ i _ => xss.length - (intOf i).toNat)
  case atStart => exact ⟨0, 0, Nat.zero_le _, rfl, rfl, rfl, World.ownsRow_nil _ _ _ _, Frm.refl _ _⟩
  case round =>
    obtain ⟨k, a, hk, rfl, rfl, hal, ho, hF⟩ := hrel
    obtain ⟨Av, cv, rfl, _⟩ := own_slice ho
    have HO := Lib.hid ho
    have HF := Lib.hid hF
    have HAL := Lib.hid hal
    have hsz := hF.size
    clear ho hF hal
    by_cases hlt : k < xss.length
    · obtain ⟨bo, o, Ai, ci, rfl, hc', hcc, hri, _, _⟩ := HX.out.at hlt
      have hc0 := HF.out.cell_some hc' (fun h => h)
      have hab : a + xss[k].length + 64 ≤ n := by
        have h := atL_succ xss hlt
        have h' := atL_le xss (k + 1)
        rw [HAL.out] at h
        have := HN.out
        omega
      have hac : a < c := by omega
      have HBO : Hid (bo < w.heap.size) := Lib.hid (by
        refine Decidable.byContradiction fun h => ?_
        have e : w.cell? ⟨bo, o + k, none⟩ = none := by
          unfold World.cell?
          rw [Array.getElem?_eq_none (show w.heap.size ≤ bo by omega)]
        rw [e] at hc'
        cases hc')
      have HG : Hid (cutV F c xss k = .slice (F.map fun x => x.add a) xss[k].length (c - a)) := Lib.hid (by
        unfold cutV
        rw [HAL.out]
        simp [List.getD, hlt])
      clear hri hc'
      generalize hxl : xss[k].length = xl at *
      have HXL := Lib.hid hxl
      clear hxl
      go_wp2_with (at_builtin; refine app1N info23 rfl w.heap.size HO.out (.tmp 14) (.tmp 25) rfl rfl rfl rfl rfl (k + 1) rfl _ rfl (by omega) (by omega) (by omega) ?_; intro A2 c2 w2 ho2 hc2 hf2 hv2; have HO2 := Lib.hid ho2; have HF2 := Lib.hid hf2; have hc1 := hf2.cell_some hc0 (fun h => by have h : w.heap.size ≤ bo := (own_lt HO.out _ h).1; have hbo := HBO.out; omega); clear ho2 hf2 hv2 hc2)
      have hgb : ∀ q, oB (.slice Av k cv) q → w.heap.size ≤ q := fun q hq => (own_lt HO.out q hq).1
      refine ⟨⟨k + 1, a + xl + 64, by omega, by go_num, by go_num, ?_, ?_, HF.out.trans HF2.out fun q hq h => by have := hgb q h; omega⟩, by simp [intOf]; omega⟩
      · rw [atL_succ xss hlt, HAL.out, HXL.out]
      · have h := HO2.out
        rw [← HG.out] at h
        rw [List.range_succ, List.map_append]
        exact h
    · have e : k = xss.length := by omega
      subst e
      go_wp2_with fail
      go_ret
      exact ⟨Av, cv, rfl, HO.out, HF.out⟩

theorem rowsL_append (a b : List (List UInt8)) : rowsL (a ++ b) = rowsL a ++ rowsL b := by
  unfold rowsL; simp
theorem rowsL_cons (x : List UInt8) (b : List (List UInt8)) : rowsL (x :: b) = lentL x ++ rowsL b := by
  unfold rowsL; simp
theorem rowsL_split (yss : List (List UInt8)) {k : Nat} (h : k < yss.length) : rowsL yss = rowsL (yss.take k) ++ (yss[k] ++ (lentM ++ rowsL (yss.drop (k + 1)))) := by
  conv => lhs; rw [← List.take_append_drop k yss, List.drop_eq_getElem_cons h, rowsL_append, rowsL_cons]
  simp [lentL]
theorem rowsL_drop (yss : List (List UInt8)) {k : Nat} (h : k < yss.length) : ((rowsL yss).drop (atL yss k)).take yss[k].length = yss[k] := by
  conv => lhs; rw [rowsL_split yss h]
  unfold atL
  rw [List.drop_left, List.take_left]
theorem rowsL_set (yss : List (List UInt8)) {k : Nat} (h : k < yss.length) {j : Nat} (hj : j < yss[k].length) (x : UInt8) : (rowsL yss).set (atL yss k + j) x = rowsL (yss.set k (yss[k].set j x)) := by
  have h' : k < (yss.set k (yss[k].set j x)).length := by simpa using h
  rw [rowsL_split yss h, rowsL_split _ h']
  unfold atL
  simp only [List.getElem_set_self, List.take_set, List.drop_set]
  have e1 : (yss.take k).set k (yss[k].set j x) = yss.take k := List.set_eq_of_length_le (by rw [List.length_take]; omega)

  rw [e1, List.set_append_right _ _ (by omega), Nat.add_sub_cancel_left, List.set_append_left _ _ hj, if_pos (by omega)]
theorem rowsL_get (yss : List (List UInt8)) {k : Nat} (h : k < yss.length) {j : Nat} (hj : j < yss[k].length) : (rowsL yss)[atL yss k + j]? = some (yss[k][j]) := by
  rw [rowsL_split yss h]
  unfold atL
  rw [List.getElem?_append_right (by omega), Nat.add_sub_cancel_left, List.getElem?_append_left hj, List.getElem?_eq_getElem hj]

/-- as long, list by list -/
def Alike (yss xss : List (List UInt8)) : Prop := yss.length = xss.length ∧ ∀ i (h : i < yss.length) (h' : i < xss.length), yss[i].length = xss[i].length
theorem Alike.refl (xss : List (List UInt8)) : Alike xss xss := ⟨rfl, fun _ _ _ => rfl⟩
theorem Alike.rows {yss xss : List (List UInt8)} (h : Alike yss xss) : (rowsL yss).length = (rowsL xss).length := by
  obtain ⟨h0, h1⟩ := h
  induction yss generalizing xss with
  | nil => cases xss with
    | nil => rfl
    | cons x xs => simp at h0
  | cons y ys ih => cases xss with
    | nil => simp at h0
    | cons x xs =>
      have e := ih (xss := xs) (by simpa using h0) fun i hi hi' => by
        have := h1 (i + 1) (by simpa using hi) (by simpa using hi')
        simpa using this
      have e0 := h1 0 (by simp) (by simp)
      simp only [List.getElem_cons_zero] at e0
      rw [rowsL_cons, rowsL_cons, List.length_append, List.length_append, lentL_length, lentL_length, e, e0]
theorem Alike.take {yss xss : List (List UInt8)} (h : Alike yss xss) (k : Nat) : Alike (yss.take k) (xss.take k) :=
  ⟨by rw [List.length_take, List.length_take, h.1], fun i hi hi' => by
    simp only [List.getElem_take]
    exact h.2 i (by simp at hi; omega) (by simp at hi'; omega)⟩
theorem Alike.at_ {yss xss : List (List UInt8)} (h : Alike yss xss) (k : Nat) : atL yss k = atL xss k := (h.take k).rows
theorem Alike.set {yss xss : List (List UInt8)} (h : Alike yss xss) {k : Nat} (hk : k < yss.length) (j : Nat) (x : UInt8) : Alike (yss.set k (yss[k].set j x)) xss :=
  ⟨by simpa using h.1, fun i hi hi' => by
    have hi2 : i < yss.length := by simpa using hi
    rw [List.getElem_set]
    split
    · rename_i e; subst e; rw [List.length_set]; exact h.2 _ hk hi'
    · exact h.2 i hi2 hi'⟩
theorem Alike.flat {yss xss : List (List UInt8)} (h : Alike yss xss) : yss.flatten.length = xss.flatten.length := by
  have h1 := rowsL_length yss
  have h2 := rowsL_length xss
  have := h.rows
  have := h.1
  omega

/-- the lists that Cut gave, read -/
theorem cut_rows {w : World} {base n c' c : Nat} {A F : Option Addr} {xss yss : List (List UInt8)} (hl : w.ownsRow base 29 1 (.slice A n c') n ((List.range xss.length).map (cutV F c xss))) (hF : Rd w F ((rowsL yss).map bv)) (hA : Alike yss xss) (hc : (rowsL xss).length ≤ c) : RdRows w A yss (fun _ => True) := by
  refine ⟨_, Rd.of_own hl, by simp [hA.1], fun i hi hi' => ?_, fun _ _ _ => trivial⟩
  have hx : i < xss.length := by have := hA.1; omega
  refine ⟨_, _, by
    rw [List.getElem_map, List.getElem_range]
    unfold cutV
    rw [show (xss.getD i []).length = yss[i].length by simp [List.getD, hx, hA.2 i hi hx]], ?_, ?_, fun _ _ _ => trivial⟩
  · have h := atL_succ xss hx
    have h' := atL_le xss (i + 1)
    have := hA.2 i hi hx
    omega
  · have h := (hF.dropO (atL yss i)).takeB yss[i].length
    rw [rowsL_drop yss hi, hA.at_] at h
    exact h

/-- a memory of bytes known from its beginning -/
def Full (w : World) (g : Nat) (xs : List UInt8) : Prop := ∃ cs : Array Value, Blk w g 5 cs ∧ ∀ j (h : j < xs.length), cs[j]? = some (bv xs[j])
theorem Full.of_own {w : World} {base n c : Nat} {F : Option Addr} {xs : List UInt8} (h : w.ownsRow base 5 1 (.slice F n c) n (xs.map bv)) (h0 : 0 < n) : ∃ g, F = some ⟨g, 0, none⟩ ∧ base ≤ g ∧ Full w g xs := by
  have hl := h.1
  rcases h.2 with ⟨_, e⟩ | ⟨g, cap, cur, e, hg, hb, hn, hm, hs, ht⟩
  · omega
  · injection e with e1 e2 e3
    refine ⟨g, e1, hg, cur, hb, fun j hj => ?_⟩
    have hj' : j < (xs.map bv).length := by simpa using hj
    have h2 : (cur.toList.take (n * 1))[j]? = some (bv xs[j]) := by
      rw [ht, List.getElem?_map, List.getElem?_eq_getElem hj]; rfl
    rw [List.getElem?_take] at h2
    split at h2
    · rwa [Array.getElem?_toList] at h2
    · cases h2
theorem Full.frm {S : Nat → Prop} {w w' : World} {g : Nat} {xs : List UInt8} (h : Full w g xs) (hf : Frm S w w') (hS : ¬ S g) : Full w' g xs := by
  obtain ⟨cs, h1, h2⟩ := h
  exact ⟨cs, h1.frm hf hS, h2⟩
theorem Full.frm' {w w' : World} {g : Nat} {xs : List UInt8} (h : Full w g xs) (hf : Frm noB w w') : Full w' g xs := h.frm hf fun h => h
theorem Full.rd {w : World} {g : Nat} {xs : List UInt8} (h : Full w g xs) : Rd w (some ⟨g, 0, none⟩) (xs.map bv) := by
  obtain ⟨cs, h1, h2⟩ := h
  intro i hi
  refine ⟨g, 0, rfl, ?_⟩
  rw [Nat.zero_add, h1.cell i, h2 i (by simpa using hi)]
  simp
theorem Full.set_ {w : World} {g j : Nat} {xs : List UInt8} (h : Full w g xs) (hj : j < xs.length) {n : Int} {x : UInt8} (hx : bv x = .int .u8 n) : Full (w.setCell ⟨g, j, none⟩ (.int .u8 n)) g (xs.set j x) := by
  obtain ⟨cs, h1, h2⟩ := h
  have hcs : j < cs.size := by
    have := h2 j hj
    exact (Array.getElem?_eq_some_iff.1 this).1
  refine ⟨_, h1.set_ j (.int .u8 n), fun r hr => ?_⟩
  rw [Array.getElem?_setIfInBounds]
  by_cases e : j = r
  · subst e
    rw [if_pos rfl, if_pos hcs]
    simp [hx]
  · rw [if_neg e, h2 r (by simpa using hr)]
    simp [e]
theorem Full.at_ {w : World} {g j : Nat} {xs : List UInt8} (h : Full w g xs) (hj : j < xs.length) : w.cell? ⟨g, j, none⟩ = some (bv xs[j]) ∧ w.frozen? ⟨g, j, none⟩ = false := by
  obtain ⟨cs, h1, h2⟩ := h
  exact ⟨by rw [h1.cell j, h2 j hj], h1.frozen j⟩

theorem byte_u8' {n : Int} (h0 : 0 ≤ n) (h1 : n ≤ 255) : bv (UInt8.ofNat n.toNat) = .int .u8 n := by
  unfold bv
  congr 1
  rw [UInt8.toNat_ofNat']
  omega
def FO (w : World) (base : Nat) (F : Option Addr) (xs : List UInt8) : Prop := xs = [] ∨ ∃ g, F = some ⟨g, 0, none⟩ ∧ base ≤ g ∧ Full w g xs
theorem FO.of_own {w : World} {base n c : Nat} {F : Option Addr} {xs : List UInt8} (h : w.ownsRow base 5 1 (.slice F n c) n (xs.map bv)) : FO w base F xs := by
  by_cases e : xs = []
  · exact .inl e
  · refine .inr (Full.of_own h ?_)
    have hl := h.1
    have := List.length_pos_iff.2 e
    rw [List.length_map] at hl
    omega
theorem FO.frm' {w w' : World} {base : Nat} {F : Option Addr} {xs : List UInt8} (h : FO w base F xs) (hf : Frm noB w w') : FO w' base F xs := by
  rcases h with h | ⟨g, e, hb, h⟩
  · exact .inl h
  · exact .inr ⟨g, e, hb, h.frm' hf⟩
theorem FO.rd {w : World} {base : Nat} {F : Option Addr} {xs : List UInt8} (h : FO w base F xs) : Rd w F (xs.map bv) := by
  rcases h with rfl | ⟨g, rfl, hb, h⟩
  · exact Rd.nil _ _
  · exact h.rd

structure CutS (w1 w : World) (base : Nat) (F L : Option Addr) (cF cL : Nat) (xss yss : List (List UInt8)) : Prop where
  alike : Alike yss xss
  own : w.ownsRow base 29 1 (.slice L xss.length cL) xss.length ((List.range xss.length).map (cutV F cF xss))
  mem : FO w w1.heap.size F (rowsL yss)
  frm : Frm noB w1 w
  cap : (rowsL xss).length ≤ cF
theorem CutS.rows {w1 w : World} {base : Nat} {F L : Option Addr} {cF cL : Nat} {xss yss : List (List UInt8)} (h : CutS w1 w base F L cF cL xss yss) : RdRows w L yss (fun _ => True) :=
  cut_rows h.own h.mem.rd h.alike h.cap
theorem CutS.frm' {w1 w w' : World} {base : Nat} {F L : Option Addr} {cF cL : Nat} {xss yss : List (List UInt8)} (h : CutS w1 w base F L cF cL xss yss) (hf : Frm noB w w') : CutS w1 w' base F L cF cL xss yss :=
  ⟨h.alike, own_frm' h.own hf, h.mem.frm' hf, h.frm.trans' hf, h.cap⟩
theorem rowsL_ne {xss : List (List UInt8)} (h : 0 < xss.length) : rowsL xss ≠ [] := fun e => by
  have := rowsL_length xss
  rw [e] at this
  simp at this
  omega
/-- the places of one list and of one byte -/
theorem CutS.places {w1 w : World} {base : Nat} {F L : Option Addr} {cF cL : Nat} {xss yss : List (List UInt8)} (h : CutS w1 w base F L cF cL xss yss) {k : Nat} (hk : k < xss.length) :
    ∃ g l, F = some ⟨g, 0, none⟩ ∧ L = some ⟨l, 0, none⟩ ∧ w1.heap.size ≤ g ∧ l ≠ g ∧ w.cell? ⟨l, k, none⟩ = some (.slice (some ⟨g, atL xss k, none⟩) xss[k].length (cF - atL xss k)) ∧
      ∀ j (hj : j < xss[k].length), ∃ n : Int, w.cell? ⟨g, atL xss k + j, none⟩ = some (.int .u8 n) ∧ w.frozen? ⟨g, atL xss k + j, none⟩ = false := by
  have hyk : k < yss.length := by have := h.alike.1; omega
  have hl := h.alike.2 k hyk hk
  rcases h.mem with e | ⟨g, rfl, hg, hF⟩
  · exact absurd e (rowsL_ne (by omega))
  · have hr := Rd.of_own h.own
    obtain ⟨l, o, rfl, hc⟩ := hr k (by simpa using hk)
    have hL : o = 0 := by
      rcases h.own.2 with ⟨_, e⟩ | ⟨g', cap, cur, e, _⟩
      · omega
      · injection e with e1 _ _
        injection e1 with e1
        injection e1
    subst hL
    refine ⟨g, l, rfl, rfl, hg, ?_, ?_, fun j hj => ?_⟩
    · obtain ⟨cs, hb, _⟩ := hF
      intro e
      exact (hb.own_ne h.own (by decide)) (by subst e; rfl)
    · rw [Nat.zero_add] at hc
      rw [hc]
      simp only [List.getElem_map, List.getElem_range]
      unfold cutV
      simp [List.getD, hk, Addr.add]
      exact fun h => h.symm
    · have hlt : atL xss k + j < (rowsL yss).length := by
        have h1 := atL_succ xss hk
        have h2 := atL_le xss (k + 1)
        have := h.alike.rows
        omega
      obtain ⟨h1, h2⟩ := hF.at_ hlt
      exact ⟨_, h1, h2⟩
theorem CutS.put {w1 w : World} {base g : Nat} {F L : Option Addr} {cF cL : Nat} {xss yss : List (List UInt8)} (h : CutS w1 w base F L cF cL xss yss) {k : Nat} (hk : k < xss.length) {j : Nat} (hj : j < xss[k].length) (hF : F = some ⟨g, 0, none⟩) {n : Int} (h0 : 0 ≤ n) (h1 : n ≤ 255) :
    ∃ zss, CutS w1 (w.setCell ⟨g, atL xss k + j, none⟩ (.int .u8 n)) base F L cF cL xss zss := by
  have hyk : k < yss.length := by have := h.alike.1; omega
  have hl := h.alike.2 k hyk hk
  have hjy : j < yss[k].length := by omega
  rcases h.mem with e | ⟨g', e, hg, hM⟩
  · exact absurd e (rowsL_ne (by omega))
  · have : g' = g := by rw [hF] at e; injection e with e; injection e with e; exact e.symm
    subst this
    have hlt : atL xss k + j < (rowsL yss).length := by
      have h1 := atL_succ xss hk
      have h2 := atL_le xss (k + 1)
      have := h.alike.rows
      omega
    refine ⟨yss.set k (yss[k].set j (UInt8.ofNat n.toNat)), h.alike.set hyk _ _, ?_, .inr ⟨g', e, hg, ?_⟩, h.frm.setCell (.inr hg) _, h.cap⟩
    · have hf : Frm (isB g') w (w.setCell ⟨g', atL xss k + j, none⟩ (.int .u8 n)) := (Frm.refl _ _).setCell (.inl (show isB g' g' from rfl)) _
      obtain ⟨cs, hb, _⟩ := hM
      exact own_frm h.own hf fun q hq hs => by
        have hs : q = g' := hs
        subst hs
        exact hb.own_ne h.own (by decide) hq
    · have hs := hM.set_ hlt (byte_u8' h0 h1)
      rw [← h.alike.at_ k] at hs ⊢
      rwa [rowsL_set yss hyk hjy] at hs
end Go.Proofs.YtkhakddecmgejaaDoor
