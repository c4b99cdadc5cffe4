/-
  trystlaw03.DigestPieces: the walk.
-/
import Derived.Test.YtkhakddecmgejaaDoorLawCopies
import Derived.Deep.MidRow
import Derived.Deep.RegionHeld3
namespace Go.Proofs.YtkhakddecmgejaaDoor
open Go.RowKit
set_option linter.unusedVariables false
set_option linter.unusedSimpArgs false

theorem Blk.range {w : World} {g : Nat} {ty : TypeId} {a : Array Value} {cs : List Value} (h : Blk w g ty a) (e : a = cs.toArray) : w.rangeAt g 0 cs := fun j v hj => by
  rw [Nat.zero_add, h.cell, e]
  simpa using hj
section
variable {P : Program} {ops : Array Oper} {Q : Exit → Act → World → Prop} {md : Region.Mode} {S : World → Prop}
theorem takeC {i : Nat} {d : Option Tmp} {op : Op} {ty : TypeId} {pos : String} {af : Array Edge} {gd : Option (Nat × Bool)} (v : Value) {fuel : Nat} {listed : Array Bool} {a : Act} {w : World} (hi : ops[i]? = some ⟨d, op, ty, pos, af, gd⟩)
    (hs : Region.noSelect ops = true) (hf : Region.free md ops listed i = true) (hr : (Region.ready md ops listed).contains i = true)
    (hQ : ∀ c a w, Q (.panic c) (a.put d v) w → Q (.panic c) a w) (hy : YieldsIf P ops S ⟨d, op, ty, pos, af, gd⟩ v a) (hS : S w)
    (h : wpAnyH P md ops Q S fuel (listed.setIfInBounds i true) (a.put d v) w) : wpAnyH P md ops Q S (fuel + 1) listed a w :=
  wpAnyH_take hi hs hf hr hQ hy hS h
theorem consC {fuel : Nat} {listed : Array Bool} {a : Act} {w : World} {i : Nat} {d : Option Tmp} {op : Op} {ty : TypeId} {pos : String} {af : Array Edge} {gd : Option (Nat × Bool)} (hi : ops[i]? = some ⟨d, op, ty, pos, af, gd⟩)
    (hr : Region.ready md ops listed = [i])
    (h : ∀ K' : Act → World → Prop, Shut (∀ a w, S w → (S w → wpAnyH P md ops Q S fuel (listed.setIfInBounds i true) a w) → K' a w) → if Region.wanted ⟨d, op, ty, pos, af, gd⟩ (yielded ops a.tmps) = true then Oper.wp P ⟨d, op, ty, pos, af, gd⟩ a w K' Q else K' (a.put d undef) w) :
    wpAnyH P md ops Q S (fuel + 1) listed a w := wpAnyH_ready hr (by simp) (AllReadyH.cons hi h AllReadyH.nil)
end
theorem OwnedRows.rows {w : World} {g : Nat} {v : Value} {vs : List Value} {xss : List (List UInt8)} (h : OwnedRows w g v vs xss) : ∃ A c, v = .slice A xss.length c ∧ RdRows w A xss (fun k => g ≤ k ∧ k < w.heap.size) := by
  have hr := h.row
  rcases hr.2 with ⟨e, h0⟩ | ⟨b, cap, cur, e, _⟩
  · subst e
    obtain ⟨e1, e2⟩ := h.rd
    exact ⟨_, _, by rw [← e1], e2⟩
  · subst e
    obtain ⟨e1, e2⟩ := h.rd
    exact ⟨_, _, by rw [e1], e2⟩

set_option maxRecDepth 100000 in
set_option maxHeartbeats 4000000 in
theorem digestPieces_any (w : World) (A : Option Addr) (xss : List (List UInt8)) (c : Nat) (ask : Bool) {N : Nat → Prop} (hT : TabOk w) (hx : RdRows w A xss N) (hl : xss.flatten.length ≤ 1000000000) (hn : xss.length ≤ 2000000) :
    Calls Tryd.prog 5 #[.slice A xss.length c, .bool ask] w fun e w' => e = .returned (.bool true) ∧ Frm noB w w' := by
  have HT := Lib.hid hT
  have HX := Lib.hid hx
  clear hT hx
  go_enter Tryd.func5, Tryd.ntmps5
  go_wp2_with fail
  refine (works03 w HT.out).mono ?_
  rintro _ w1 ⟨rfl, hf⟩
  have HF : Hid (Frm noB w w1) := Lib.hid hf
  clear hf
  try dsimp only
  go_wp2_with fail
  refine (join_any w1 A xss c (HX.out.frm' HF.out) (by unfold JLen; omega) (by unfold JLen; omega)).mono ?_
  rintro _ w2 ⟨v, rfl, ho, hf⟩
  obtain ⟨Av, cv, rfl, hcv⟩ := own_slice ho
  obtain ⟨t, ht⟩ : ∃ t, t = xss.flatten := ⟨_, rfl⟩
  rw [← ht] at ho hcv hl ⊢
  have HTX := Lib.hid ht
  have HO := Lib.hid ho
  replace HF : Hid (Frm noB w w2) := Lib.hid (HF.out.trans' hf)
  clear ho hf ht
  try dsimp only
  go_wp2_with fail
  refine (dsum1 w2 Av t cv (HT.out.frm' HF.out) (Rd.of_own HO.out) hcv (by unfold HLen; omega)).mono ?_
  rintro _ w3 ⟨rfl, hf⟩
  obtain ⟨wz, hrun, hz, hfz⟩ := run_storeRow (P := Tryd.prog) (w := w3.alloc (.cells #[.int .u8 0, .int .u8 0, .int .u8 0, .int .u8 0, .int .u8 0, .int .u8 0, .int .u8 0, .int .u8 0, .int .u8 0, .int .u8 0, .int .u8 0, .int .u8 0, .int .u8 0, .int .u8 0, .int .u8 0, .int .u8 0, .int .u8 0, .int .u8 0, .int .u8 0, .int .u8 0, .int .u8 0, .int .u8 0, .int .u8 0, .int .u8 0, .int .u8 0, .int .u8 0, .int .u8 0, .int .u8 0, .int .u8 0, .int .u8 0, .int .u8 0, .int .u8 0] 26)) (Blk.new _ _ _) (cs := arr 32 (shaAt t)) (by rw [arr_size]; rfl) (one_arr fun i _ => rfl)
  have HZ := Lib.hid hz
  have HF0 := HF
  have hf3 : Frm noB w wz := HF.out.trans' (hf.trans' (((Frm.refl noB w3).alloc (.cells #[.int .u8 0, .int .u8 0, .int .u8 0, .int .u8 0, .int .u8 0, .int .u8 0, .int .u8 0, .int .u8 0, .int .u8 0, .int .u8 0, .int .u8 0, .int .u8 0, .int .u8 0, .int .u8 0, .int .u8 0, .int .u8 0, .int .u8 0, .int .u8 0, .int .u8 0, .int .u8 0, .int .u8 0, .int .u8 0, .int .u8 0, .int .u8 0, .int .u8 0, .int .u8 0, .int .u8 0, .int .u8 0, .int .u8 0, .int .u8 0, .int .u8 0, .int .u8 0] 26)).trans hfz fun k hk h => by have h : k = w3.heap.size := h; omega))
  replace HF : Hid (Frm noB w wz) := Lib.hid hf3
  have hs3 : w.heap.size ≤ w3.heap.size := Nat.le_trans HF0.out.size hf.size
  clear hf hz hfz hf3 HF0
  try dsimp only
  go_wp2_with fail
  refine (new_any wz (HT.out.frm' HF.out)).mono ?_
  rintro _ w4 ⟨bh, rfl, gh, hI, hf⟩
  have HI : Hid (IsH w4 bh []) := Lib.hid hI
  have HZ4 := Lib.hid (HZ.out.frm' hf)
  replace HF : Hid (Frm noB w w4) := Lib.hid (HF.out.trans' hf)
  have hzb : w3.heap.size < bh := Nat.lt_of_lt_of_le HZ.out.lt gh
  have gew : w.heap.size ≤ bh := by omega
  clear hI hf HZ hrun
  try dsimp only
  go_wp2_with fail
  go_loopw [8] (fun i wr => ∃ k : Nat, k ≤ xss.length ∧ i = .int .i64 k ∧ IsH wr bh (xss.take k).flatten ∧ Blk wr w3.heap.size 26 (arr 32 (shaAt t)) ∧ Frm noB w wr) (fun i _ => xss.length - (intOf i).toNat)
  case atStart => exact ⟨0, Nat.zero_le _, rfl, HI.out, HZ4.out, HF.out⟩
  case round =>
    clear HI HZ4 HF
    obtain ⟨k, hk, rfl, hI, hZ, hF⟩ := hrel
    obtain ⟨wq, rfl⟩ : ∃ wq : World, wq = wr := ⟨_, rfl⟩
    have HI := Lib.hid hI
    have HZ := Lib.hid hZ
    have HF := Lib.hid hF
    clear hI hZ hF
    by_cases hlt : k < xss.length
    · obtain ⟨bo, o, Ai, ci, rfl, hc, hcc, hri, _, _⟩ := HX.out.at hlt
      have hel := elem_le xss hlt
      have hfl := flat_le xss k
      rw [← HTX.out] at hel hfl
      have hc0 := HF.out.cell_some hc (fun h => h)
      have HRI := Lib.hid (hri.frm' HF.out)
      have hlb := HI.out.lt
      clear hri
      go_wp2_with fail
      refine (copyBytes_t Ai xss[k] ci wq HRI.out (by unfold Len; omega)).mono ?_
      rintro _ w6 ⟨A6, c6, rfl, hc6, ho, hf⟩
      have HO6 := Lib.hid ho
      have HB6 := Lib.hid (own_ab ho)
      have HI6 := Lib.hid (HI.out.frm' hf)
      have HZ6 := Lib.hid (HZ.out.frm' hf)
      have HF6 := Lib.hid (HF.out.trans' hf)
      clear ho hf hc0
      try dsimp only
      go_wp2_with fail
      refine (write_any w6 bh (xss.take k).flatten A6 xss[k] c6 (HT.out.frm' HF6.out) HI6.out (Rd.of_own HO6.out) (fun _ q hq h => by have := (HB6.out q hq).1; omega) hc6 (by unfold HLen; omega) (by unfold HLen; omega)).mono ?_
      rintro _ w7 ⟨rfl, hI7, hf⟩
      have HI7 : Hid (IsH w7 bh (xss.take (k + 1)).flatten) := Lib.hid (by rw [flat_take xss hlt]; exact hI7)
      have HZ7 := Lib.hid (HZ6.out.frm hf (fun h => by have h : w3.heap.size = bh := h; omega))
      have HF7 : Hid (Frm noB w w7) := Lib.hid (HF6.out.trans hf fun k hk h => by have h : k = bh := h; omega)
      have hc7 := HF7.out.cell_some hc (fun h => h)
      have hfl2 := flat_le xss (k + 1)
      rw [← HTX.out] at hfl2
      clear hI7 hf hc hc6
      try dsimp only
      cases ask
      · go_wp2_with fail
        exact ⟨⟨k + 1, by omega, by go_num, HI7.out, HZ7.out, HF7.out⟩, by simp [intOf]; omega⟩
      · go_wp2_with fail
        refine (sum_any w7 bh (xss.take (k + 1)).flatten (HT.out.frm' HF7.out) HI7.out (by unfold HLen; omega)).mono ?_
        rintro _ w8 ⟨rfl, hf⟩
        have HI8 := Lib.hid (HI7.out.frm' hf)
        have HZ8 := Lib.hid (HZ7.out.frm' hf)
        have HF8 := Lib.hid (HF7.out.trans' hf)
        clear hf
        try dsimp only
        go_wp2_with fail
        exact ⟨⟨k + 1, by omega, by go_num, HI8.out, HZ8.out, HF8.out⟩, by simp [intOf]; omega⟩
    · have e : k = xss.length := by omega
      subst e
      have HIt : Hid (IsH wq bh t) := Lib.hid (by have := HI.out; rw [List.take_length, ← HTX.out] at this; exact this)
      clear HI hk
      go_wp2_with fail
      obtain ⟨cs, hcs⟩ : ∃ cs : List Value, cs = (List.range 32).map (shaAt t) := ⟨_, rfl⟩
      have harr : arr 32 (shaAt t) = cs.toArray := by rw [hcs]; rfl
      have HA := Lib.hid harr
      have hE : ∀ w : World, (Op.equalIn 10000 26 (.agg cs.toArray) (.agg cs.toArray)).run Tryd.prog w = .ok true w := fun w => by rw [← harr]; exact eq_sha' w t
      have HU : Hid (Tryd.prog.underlying 26 = some (.array 32 5)) := Lib.hid Tryd.underlying26
      have HS : Hid ((Tryd.prog.info? 26).map (·.size) = some cs.length) := Lib.hid (by rw [hcs, List.length_map, List.length_range]; rfl)
      have hr0 := (HZ.out.frm' (Frm.refl noB wq).drew).range harr
      have hti : IntKind.u64.wrap (t.length : Int) = t.length := by
        have : t.length ≤ 1000000000 := hl
        exact IntWalk.u64_in _ (by omega)
      have hlb := HIt.out.lt
      have HEL : Hid (∀ l ∈ xss, l.length ≤ t.length) := Lib.hid fun l hm => by
        obtain ⟨i, hi, rfl⟩ := List.mem_iff_getElem.1 hm
        have := elem_le xss hi
        rw [← HTX.out] at this; exact this
      clear hcs harr
      refine wp_region_held_drew (S := fun w' => w'.rangeAt w3.heap.size 0 cs) (by kernel_rfl) hr0 (fun hHeld => ?_)
      refine takeC (i := 0) (.pointer (some ⟨bh, 0, none⟩)) rfl (by kernel_rfl) (by kernel_rfl) (by kernel_rfl) (fun _ _ _ h => h) (Or.inl ⟨by rfl, fun w hw => by go_simp⟩) hr0 ?_
      try simp only [Act.put, List.setIfInBounds_toArray, List.set_cons_zero, List.set_cons_succ]
      refine takeC (i := 2) (.agg cs.toArray) rfl (by kernel_rfl) (by kernel_rfl) (by kernel_rfl) (fun _ _ _ h => h) (yieldsIf_load_mid (by rfl) _ _ rfl w3.heap.size 0 rfl cs _ (fun w hw => hw) HU.out rfl HS.out) hr0 ?_
      try simp only [Act.put, List.setIfInBounds_toArray, List.set_cons_zero, List.set_cons_succ]
      refine consC (i := 1) rfl (by kernel_rfl) (fun K hK => ?_)
      go_simp
      go_at_call 26
      refine (sum_any wq.drew bh t ((HT.out.frm' HF.out).frm' (Frm.refl noB wq).drew) (HIt.out.frm' (Frm.refl noB wq).drew) (by unfold HLen; omega)).mono ?_
      rintro _ w8 ⟨rfl, hf⟩
      rw [HA.out]
      have HF8 := Lib.hid (HF.out.trans' ((Frm.refl noB wq).drew.trans' hf))
      have HI8 := Lib.hid ((HIt.out.frm' (Frm.refl noB wq).drew).frm' hf)
      have HZ8 := Lib.hid ((HZ.out.frm' (Frm.refl noB wq).drew).frm' hf)
      have hr8 := HZ8.out.range HA.out
      clear hf
      try dsimp only
      refine hK.out _ _ hr8 (fun hHeld => ?_)
      clear hK K
      try simp only [Act.put, List.setIfInBounds_toArray, List.set_cons_zero, List.set_cons_succ]
      refine takeC (i := 3) (.bool true) rfl (by kernel_rfl) (by kernel_rfl) (by kernel_rfl) (fun _ _ _ h => h) (Or.inl ⟨by rfl, fun w hw => by go_simp⟩) hr8 ?_
      try simp only [Act.put, List.setIfInBounds_toArray, List.set_cons_zero, List.set_cons_succ]
      refine takeC (i := 4) (.bool true) rfl (by kernel_rfl) (by kernel_rfl) (by kernel_rfl) (fun _ _ _ h => h) (Or.inl ⟨by rfl, fun w hw => by go_simp⟩) hr8 ?_
      try simp only [Act.put, List.setIfInBounds_toArray, List.set_cons_zero, List.set_cons_succ]
      refine takeC (i := 5) (.pointer (some ⟨bh, 0, none⟩)) rfl (by kernel_rfl) (by kernel_rfl) (by kernel_rfl) (fun _ _ _ h => h) (Or.inl ⟨by rfl, fun w hw => by go_simp⟩) hr8 ?_
      try simp only [Act.put, List.setIfInBounds_toArray, List.set_cons_zero, List.set_cons_succ]
      refine takeC (i := 7) (.agg cs.toArray) rfl (by kernel_rfl) (by kernel_rfl) (by kernel_rfl) (fun _ _ _ h => h) (yieldsIf_load_mid (by rfl) _ _ rfl w3.heap.size 0 rfl cs _ (fun w hw => hw) HU.out rfl HS.out) hr8 ?_
      try simp only [Act.put, List.setIfInBounds_toArray, List.set_cons_zero, List.set_cons_succ]
      refine consC (i := 6) rfl (by kernel_rfl) (fun K hK => ?_)
      go_simp
      go_at_call 26
      refine (sum_any w8 bh t (HT.out.frm' HF8.out) HI8.out (by unfold HLen; omega)).mono ?_
      rintro _ w9 ⟨rfl, hf⟩
      rw [HA.out]
      have HF9 := Lib.hid (HF8.out.trans' hf)
      have HI9 := Lib.hid (HI8.out.frm' hf)
      have HZ9 := Lib.hid (HZ8.out.frm' hf)
      have hr9 := HZ9.out.range HA.out
      clear hf
      try dsimp only
      refine hK.out _ _ hr9 (fun hHeld => ?_)
      clear hK K
      try simp only [Act.put, List.setIfInBounds_toArray, List.set_cons_zero, List.set_cons_succ]
      refine takeC (i := 8) (.bool true) rfl (by kernel_rfl) (by kernel_rfl) (by kernel_rfl) (fun _ _ _ h => h) (Or.inl ⟨by rfl, fun w hw => by go_simp⟩) hr9 ?_
      try simp only [Act.put, List.setIfInBounds_toArray, List.set_cons_zero, List.set_cons_succ]
      refine takeC (i := 9) (.bool true) rfl (by kernel_rfl) (by kernel_rfl) (by kernel_rfl) (fun _ _ _ h => h) (Or.inl ⟨by rfl, fun w hw => by go_simp⟩) hr9 ?_
      try simp only [Act.put, List.setIfInBounds_toArray, List.set_cons_zero, List.set_cons_succ]
      refine takeC (i := 10) (.bool true) rfl (by kernel_rfl) (by kernel_rfl) (by kernel_rfl) (fun _ _ _ h => h) (Or.inl ⟨by rfl, fun w hw => by go_simp⟩) hr9 ?_
      try simp only [Act.put, List.setIfInBounds_toArray, List.set_cons_zero, List.set_cons_succ]
      refine takeC (i := 11) (.slice A xss.length c) rfl (by kernel_rfl) (by kernel_rfl) (by kernel_rfl) (fun _ _ _ h => h) (Or.inl ⟨by rfl, fun w hw => by go_simp⟩) hr9 ?_
      try simp only [Act.put, List.setIfInBounds_toArray, List.set_cons_zero, List.set_cons_succ]
      refine takeC (i := 14) (.agg cs.toArray) rfl (by kernel_rfl) (by kernel_rfl) (by kernel_rfl) (fun _ _ _ h => h) (yieldsIf_load_mid (by rfl) _ _ rfl w3.heap.size 0 rfl cs _ (fun w hw => hw) HU.out rfl HS.out) hr9 ?_
      try simp only [Act.put, List.setIfInBounds_toArray, List.set_cons_zero, List.set_cons_succ]
      refine consC (i := 12) rfl (by kernel_rfl) (fun K hK => ?_)
      go_simp
      go_at_call 22
      refine (copyRows_any A xss c w9 (HX.out.frm' HF9.out) hn (fun l hm => by have := HEL.out l hm; unfold Len; omega)).mono ?_
      rintro _ w10 ⟨v10, vs10, rfl, ho, hf⟩
      have HF10 := Lib.hid (HF9.out.trans' hf)
      have HI10 := Lib.hid (HI9.out.frm' hf)
      have HZ10 := Lib.hid (HZ9.out.frm' hf)
      have hr10 := HZ10.out.range HA.out
      obtain ⟨A10, c10, rfl, hx10⟩ := ho.rows
      have HX10 := Lib.hid hx10
      clear ho hf hx10
      try dsimp only
      refine hK.out _ _ hr10 (fun hHeld => ?_)
      clear hK K
      try simp only [Act.put, List.setIfInBounds_toArray, List.set_cons_zero, List.set_cons_succ]
      refine consC (i := 13) rfl (by kernel_rfl) (fun K hK => ?_)
      go_simp
      go_at_call 18
      refine (dsum_any w10 A10 xss c10 (HT.out.frm' HF10.out) HX10.out (by rw [← HTX.out]; unfold HLen; omega) (by unfold HLen; omega)).mono ?_
      rintro _ w11 ⟨rfl, hf⟩
      rw [← HTX.out, HA.out]
      have HF11 := Lib.hid (HF10.out.trans' hf)
      have HI11 := Lib.hid (HI10.out.frm' hf)
      have HZ11 := Lib.hid (HZ10.out.frm' hf)
      have hr11 := HZ11.out.range HA.out
      clear hf
      try dsimp only
      refine hK.out _ _ hr11 (fun hHeld => ?_)
      clear hK K
      try simp only [Act.put, List.setIfInBounds_toArray, List.set_cons_zero, List.set_cons_succ]
      refine takeC (i := 15) (.bool true) rfl (by kernel_rfl) (by kernel_rfl) (by kernel_rfl) (fun _ _ _ h => h) (Or.inl ⟨by rfl, fun w hw => by go_simp⟩) hr11 ?_
      try simp only [Act.put, List.setIfInBounds_toArray, List.set_cons_zero, List.set_cons_succ]
      refine takeC (i := 16) (.bool true) rfl (by kernel_rfl) (by kernel_rfl) (by kernel_rfl) (fun _ _ _ h => h) (Or.inl ⟨by rfl, fun w hw => by go_simp⟩) hr11 ?_
      try simp only [Act.put, List.setIfInBounds_toArray, List.set_cons_zero, List.set_cons_succ]
      refine takeC (i := 17) (.bool true) rfl (by kernel_rfl) (by kernel_rfl) (by kernel_rfl) (fun _ _ _ h => h) (Or.inl ⟨by rfl, fun w hw => by go_simp⟩) hr11 ?_
      try simp only [Act.put, List.setIfInBounds_toArray, List.set_cons_zero, List.set_cons_succ]
      refine takeC (i := 18) (.pointer (some ⟨bh, 0, none⟩)) rfl (by kernel_rfl) (by kernel_rfl) (by kernel_rfl) (fun _ _ _ h => h) (Or.inl ⟨by rfl, fun w hw => by go_simp⟩) hr11 ?_
      try simp only [Act.put, List.setIfInBounds_toArray, List.set_cons_zero, List.set_cons_succ]
      refine takeC (i := 20) (.slice Av t.length cv) rfl (by kernel_rfl) (by kernel_rfl) (by kernel_rfl) (fun _ _ _ h => h) (Or.inl ⟨by rfl, fun w hw => by go_simp⟩) hr11 ?_
      try simp only [Act.put, List.setIfInBounds_toArray, List.set_cons_zero, List.set_cons_succ]
      refine takeC (i := 21) (.int .i64 t.length) rfl (by kernel_rfl) (by kernel_rfl) (by kernel_rfl) (fun _ _ _ h => h) (Or.inl ⟨by rfl, fun w hw => by go_simp⟩) hr11 ?_
      try simp only [Act.put, List.setIfInBounds_toArray, List.set_cons_zero, List.set_cons_succ]
      refine takeC (i := 22) (.int .u64 t.length) rfl (by kernel_rfl) (by kernel_rfl) (by kernel_rfl) (fun _ _ _ h => h) (Or.inl ⟨by rfl, fun w hw => by go_simp⟩) hr11 ?_
      try simp only [Act.put, List.setIfInBounds_toArray, List.set_cons_zero, List.set_cons_succ]
      refine consC (i := 19) rfl (by kernel_rfl) (fun K hK => ?_)
      go_simp
      go_at_call 27
      refine (len_any w11 bh t HI11.out).mono ?_
      rintro _ w12 ⟨rfl, e⟩
      subst e
      try dsimp only
      refine hK.out _ _ hr11 (fun hHeld => ?_)
      clear hK K
      try simp only [Act.put, List.setIfInBounds_toArray, List.set_cons_zero, List.set_cons_succ]
      refine takeC (i := 23) (.bool true) rfl (by kernel_rfl) (by kernel_rfl) (by kernel_rfl) (fun _ _ _ h => h) (Or.inl ⟨by rfl, fun w hw => by go_simp⟩) hr11 ?_
      try simp only [Act.put, List.setIfInBounds_toArray, List.set_cons_zero, List.set_cons_succ]
      refine takeC (i := 24) (.bool true) rfl (by kernel_rfl) (by kernel_rfl) (by kernel_rfl) (fun _ _ _ h => h) (Or.inl ⟨by rfl, fun w hw => by go_simp⟩) hr11 ?_
      try simp only [Act.put, List.setIfInBounds_toArray, List.set_cons_zero, List.set_cons_succ]
      refine takeC (i := 25) (.bool true) rfl (by kernel_rfl) (by kernel_rfl) (by kernel_rfl) (fun _ _ _ h => h) (Or.inl ⟨by rfl, fun w hw => by go_simp⟩) hr11 ?_
      try simp only [Act.put, List.setIfInBounds_toArray, List.set_cons_zero, List.set_cons_succ]
      refine wpAnyH_done (by kernel_rfl) ?_ _
      go_wp2_with fail
      go_ret
      exact ⟨rfl, HF11.out⟩
end Go.Proofs.YtkhakddecmgejaaDoor
