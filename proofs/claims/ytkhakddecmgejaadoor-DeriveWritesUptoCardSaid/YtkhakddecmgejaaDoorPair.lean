/-
  A pair of a hash and what it has taken; a step with it.
-/
import Derived.Test.YtkhakddecmgejaaDoorLawPieces
import Derived.Test.YtkhakddecmgejaaDoorNilHash
import Derived.Test.YtkhakddecmgejaaDoorSparePut
import Derived.Test.YtkhakddecmgejaaDoorRSum
namespace Go.Proofs.YtkhakddecmgejaaDoor
open Go.RowKit
set_option linter.unusedVariables false
set_option linter.unusedSimpArgs false

/-- block p holds a hash (h: its block; none: nil) and what it has taken -/
structure IsP (w : World) (base p : Nat) (h : Option Nat) (v : Value) (m : List UInt8) : Prop where
  blk : Blk w p 48 #[.pointer (h.map fun b => ⟨b, 0, none⟩), v, .bool h.isNone]
  all : w.ownsRow base 5 1 v m.length (m.map bv)
  hash : ∀ b, h = some b → IsH w b m ∧ base ≤ b
  nil : h = none → m = []
  ge : base ≤ p
  two : 2 ≤ base
/-- the blocks of a pair that a step may write -/
def isPH (p : Nat) (h : Option Nat) : Nat → Prop := fun k => k = p ∨ h = some k
/-- what a step leaves -/
def Stepped (w : World) (base p : Nat) (h : Option Nat) (n : Nat) (e : Ending) (w' : World) : Prop :=
  e = .returned (.bool true) ∧ ∃ h' v' m', IsP w' base p h' v' m' ∧ m'.length ≤ n ∧ (∀ b, h' = some b → h = some b ∨ w.heap.size ≤ b) ∧ Frm (isPH p h) w w'
section
variable {S : Nat → Prop} {w w' : World} {base p b : Nat} {h : Option Nat} {v : Value} {m : List UInt8}
theorem IsH.blk_ (hI : IsH w b m) : ∃ cs, Blk w b 97 cs := by
  obtain ⟨st, bl, h1, _⟩ := hI
  exact ⟨_, h1⟩
theorem IsP.lt (hP : IsP w base p h v m) : p < w.heap.size := hP.blk.lt
theorem IsP.frm (hP : IsP w base p h v m) (hf : Frm S w w') (hp : ¬ S p) (hb : ∀ b, h = some b → ¬ S b) (hv : ∀ k, oB v k → ¬ S k) : IsP w' base p h v m :=
  ⟨hP.blk.frm hf hp, own_frm hP.all hf hv, fun b e => ⟨(hP.hash b e).1.frm hf (hb b e), (hP.hash b e).2⟩, hP.nil, hP.ge, hP.two⟩
theorem IsP.frm' (hP : IsP w base p h v m) (hf : Frm noB w w') : IsP w' base p h v m := hP.frm hf (fun h => h) (fun _ _ h => h) (fun _ _ h => h)
theorem TabOk.frmP {p : Nat} {h : Option Nat} (hT : TabOk w) (hP : IsP w base p h v m) (hf : Frm (isPH p h) w w') : TabOk w' :=
  hT.frm hf (fun hk => by
    rcases hk with hk | hk
    · have := hP.ge; have := hP.two; omega
    · have := (hP.hash 0 hk).2; have := hP.two; omega) (fun hk => by
    rcases hk with hk | hk
    · have := hP.ge; have := hP.two; omega
    · have := (hP.hash 1 hk).2; have := hP.two; omega)
end

set_option maxRecDepth 100000 in
set_option maxHeartbeats 4000000 in
theorem step_write (w : World) (base p b : Nat) (v : Value) (m : List UInt8) (wh tw : Int) (A : Option Addr) (xs : List UInt8) (c : Nat) (hT : TabOk w) (hP : IsP w base p (some b) v m) (hx : Rd w A (xs.map bv)) (hN : xs ≠ [] → ∀ q, aB A q → q < base) (hc : xs.length ≤ c) (hl : m.length + xs.length ≤ 4000000) :
    Calls Tryd.prog 30 #[.pointer (some ⟨p, 0, none⟩), .agg #[.int .i64 1, .int .i64 wh, .int .i64 tw, .slice A xs.length c]] w (Stepped w base p (some b) (m.length + xs.length)) := by
  obtain ⟨Av, cv, rfl, hcv⟩ := own_slice hP.all
  have hge := hP.ge
  have h2 := hP.two
  have hplt := hP.lt
  obtain ⟨hI, hgb⟩ := hP.hash b rfl
  have hblt := hI.lt
  have hpb : p ≠ b := by
    obtain ⟨cs, h⟩ := hI.blk_
    exact hP.blk.ne_ h (by decide)
  have HPB := Lib.hid hpb
  have HP := Lib.hid hP
  have HI := Lib.hid hI
  have HT := Lib.hid hT
  have HX := Lib.hid hx
  have HN := Lib.hid hN
  clear hP hI hT hx hpb hN
  go_enter Tryd.func30, Tryd.ntmps30
  go_wp2_with fail
  refine (spare_any A xs c _ (HX.out.alloc _) (by omega)).mono ?_
  rintro _ w2 ⟨g, rfl, hg, hS, hf⟩
  have hbx := (Blk.new w 50 #[.int .i64 1, .int .i64 wh, .int .i64 tw, .slice A xs.length c]).frm' hf
  have HF2 : Hid (Frm noB w w2) := Lib.hid (((Frm.refl noB w).alloc _).trans' hf)
  have hgw : w.heap.size < g := by simp at hg; omega
  have HS2 := Lib.hid hS
  have HB2 := Lib.hid hbx
  have d0 : w2.cell? ⟨p, 0, none⟩ = some (.pointer (some ⟨b, 0, none⟩)) := (HP.out.blk.frm' HF2.out).cell 0
  clear hS hf hg hbx
  try dsimp only
  go_wp2_with fail
  refine (write_any w2 b m (some ⟨g, 0, none⟩) xs (xs.length + 80) (HT.out.frm' HF2.out) (HI.out.frm' HF2.out) HS2.out.rd (fun _ q ⟨a, ha, hq⟩ => by cases ha; have hq : g = q := hq; omega) (by omega) (by unfold HLen; omega) (by unfold HLen; omega)).mono ?_
  rintro _ w3 ⟨rfl, hI3, hf3⟩
  have HI3 := Lib.hid hI3
  have HF3 := Lib.hid hf3
  have hgz : g < w3.heap.size := Nat.lt_of_lt_of_le HS2.out.lt hf3.size
  have HS3 := Lib.hid (HS2.out.frm hf3 (fun h => by have h : g = b := h; omega))
  have hp3 := (HP.out.blk.frm' HF2.out).frm hf3 (fun h => HPB.out h)
  have HP3 := Lib.hid hp3
  have e1 : w3.cell? ⟨p, 1, none⟩ = some (.slice Av m.length cv) := hp3.cell 1
  have e2 : w3.cell? ⟨p, 2, none⟩ = some (.bool false) := hp3.cell 2
  have hb3 := HB2.out.frm hf3 (fun h => by have h : w.heap.size = b := h; omega)
  have HB3 := Lib.hid hb3
  have f3 : w3.cell? ⟨w.heap.size, 3, none⟩ = some (.slice A xs.length c) := hb3.cell 3
  have HXA := Lib.hid (own_frm (own_frm' HP.out.all HF2.out) hf3 fun k hk h => by
    obtain ⟨cs, hh⟩ := (HI.out.frm' HF2.out).blk_
    have h : k = b := h
    subst h
    exact hh.own_ne (own_frm' HP.out.all HF2.out) (by decide) hk)
  have HXX : Hid (Rd w3 A (xs.map bv)) := Lib.hid (((HX.out.frm' HF2.out)).frmN hf3 fun hne k hk h => by
    have h : k = b := h
    have := HN.out (by intro e; apply hne; rw [e]; rfl) k hk
    omega)
  clear hI3 hf3 d0 hp3 hb3
  try dsimp only
  go_wp2_with fail
  refine (kept_q g A xs c w3 HS3.out HXX.out (by omega)).mono ?_
  rintro _ w4 ⟨rfl, nq, hw4⟩
  have f34 : Frm noB w3 w4 := hw4 ▸ Frm.of_drewN _ _ _
  have hs34 := f34.size
  have HF4 := Lib.hid f34
  have g3 := f34.cell_some f3 (fun h => h)
  have g1 := f34.cell_some e1 (fun h => h)
  clear hw4 f34 e1 e2 f3
  try dsimp only
  go_wp2_with fail
  have g3d : w4.drew.cell? ⟨w.heap.size, 3, none⟩ = some (.slice A xs.length c) := g3
  have g1d : w4.drew.cell? ⟨p, 1, none⟩ = some (.slice Av m.length cv) := g1
  refine wp_region_held_drew (S := fun w' => w'.cell? ⟨w.heap.size, 3, none⟩ = some (.slice A xs.length c)) (by kernel_rfl) g3d (fun hHeld => ?_)
  refine takeC (i := 0) (.pointer (some ⟨p, 0, none⟩)) rfl (by kernel_rfl) (by kernel_rfl) (by kernel_rfl) (fun _ _ _ h => h) (Or.inl ⟨by rfl, fun w hw => by go_simp⟩) g3d ?_
  try simp only [Act.put, List.setIfInBounds_toArray, List.set_cons_zero, List.set_cons_succ]
  refine takeC (i := 1) (.pointer (some ⟨p, 0, none⟩)) rfl (by kernel_rfl) (by kernel_rfl) (by kernel_rfl) (fun _ _ _ h => h) (Or.inl ⟨by rfl, fun w hw => by go_simp⟩) g3d ?_
  try simp only [Act.put, List.setIfInBounds_toArray, List.set_cons_zero, List.set_cons_succ]
  refine takeC (i := 2) (.pointer (some ⟨p, 0, none⟩)) rfl (by kernel_rfl) (by kernel_rfl) (by kernel_rfl) (fun _ _ _ h => h) (Or.inl ⟨by rfl, fun w hw => by go_simp⟩) g3d ?_
  try simp only [Act.put, List.setIfInBounds_toArray, List.set_cons_zero, List.set_cons_succ]
  refine takeC (i := 3) (.pointer (some ⟨p, 1, none⟩)) rfl (by kernel_rfl) (by kernel_rfl) (by kernel_rfl) (fun _ _ _ h => h) (Or.inl ⟨by rfl, fun w hw => by go_simp⟩) g3d ?_
  try simp only [Act.put, List.setIfInBounds_toArray, List.set_cons_zero, List.set_cons_succ]
  refine takeC (i := 5) (.pointer (some ⟨w.heap.size, 3, none⟩)) rfl (by kernel_rfl) (by kernel_rfl) (by kernel_rfl) (fun _ _ _ h => h) (Or.inl ⟨by rfl, fun w hw => by go_simp⟩) g3d ?_
  try simp only [Act.put, List.setIfInBounds_toArray, List.set_cons_zero, List.set_cons_succ]
  refine takeC (i := 6) (.slice A xs.length c) rfl (by kernel_rfl) (by kernel_rfl) (by kernel_rfl) (fun _ _ _ h => h) (Or.inl ⟨by rfl, fun w hw => by go_simp⟩) g3d ?_
  try simp only [Act.put, List.setIfInBounds_toArray, List.set_cons_zero, List.set_cons_succ]
  refine consC (i := 4) rfl (by kernel_rfl) (fun K hK => ?_)
  go_simp
  refine hK.out _ _ g3d (fun hHeld => ?_)
  clear hK K
  try simp only [Act.put, List.setIfInBounds_toArray, List.set_cons_zero, List.set_cons_succ]
  refine consC (i := 7) rfl (by kernel_rfl) (fun K hK => ?_)
  go_simp
  go_at_call 31
  refine (two_any w4.drew Av A m xs cv c ((Rd.of_own HXA.out).frm' (HF4.out.trans' (Frm.refl noB w4).drew)) (HXX.out.frm' (HF4.out.trans' (Frm.refl noB w4).drew)) hcv hc (by unfold JLen; simp; omega)).mono ?_
  rintro _ w5 ⟨v5, rfl, ho, hf⟩
  obtain ⟨A5, c5, rfl, hc5⟩ := own_slice ho
  have HO5 := Lib.hid ho
  have HF5 : Hid (Frm noB w3 w5) := Lib.hid (HF4.out.trans' ((Frm.refl noB w4).drew.trans' hf))
  have hp5 := HP3.out.frm' HF5.out
  have k1 : w5.cell? ⟨p, 1, none⟩ = some (.slice Av m.length cv) := hp5.cell 1
  have k1f : w5.frozen? ⟨p, 1, none⟩ = false := hp5.frozen 1
  have k3 : w5.cell? ⟨w.heap.size, 3, none⟩ = some (.slice A xs.length c) := (HB3.out.frm' HF5.out).cell 3
  have hp6 := (HP3.out.frm' HF5.out).set_ 1 (.slice A5 (m ++ xs).length c5)
  have hs6 : Frm (fun k => k = p) w5 (w5.setCell ⟨p, 1, none⟩ (.slice A5 (m ++ xs).length c5)) := Frm.setCell (S := fun k => k = p) (Frm.refl _ _) (.inl rfl) _
  have k6 := hs6.cell_some k3 (fun h => by have h : w.heap.size = p := h; omega)
  have h45 : w4.heap.size ≤ w5.heap.size := by have := hf.size; simpa using this
  clear ho hf hp5 g3 g1 g1d g3d
  try dsimp only
  refine hK.out _ _ k3 (fun hHeld => ?_)
  clear hK K
  try simp only [Act.put, List.setIfInBounds_toArray, List.set_cons_zero, List.set_cons_succ]
  clear hHeld
  refine takeC (i := 8) (.pointer (some ⟨p, 0, none⟩)) rfl (by kernel_rfl) (by kernel_rfl) (by kernel_rfl) (fun _ _ _ h => h) (Or.inl ⟨by rfl, fun w hw => by go_simp⟩) k3 ?_
  try simp only [Act.put, List.setIfInBounds_toArray, List.set_cons_zero, List.set_cons_succ]
  refine takeC (i := 9) (.pointer (some ⟨p, 1, none⟩)) rfl (by kernel_rfl) (by kernel_rfl) (by kernel_rfl) (fun _ _ _ h => h) (Or.inl ⟨by rfl, fun w hw => by go_simp⟩) k3 ?_
  try simp only [Act.put, List.setIfInBounds_toArray, List.set_cons_zero, List.set_cons_succ]
  refine consC (i := 10) rfl (by kernel_rfl) (fun K hK => ?_)
  go_simp
  simp only [List.length_append] at hp6 hs6 k6
  refine hK.out _ _ k6 (fun hHeld => ?_)
  clear hK K
  try simp only [Act.put, List.setIfInBounds_toArray, List.set_cons_zero, List.set_cons_succ]
  refine wpAnyH_done (by kernel_rfl) ?_ _
  obtain ⟨w6, hw6⟩ : ∃ w6 : World, w6 = w5.setCell ⟨p, 1, none⟩ (.slice A5 (m.length + xs.length) c5) := ⟨_, rfl⟩
  rw [← hw6] at hp6 hs6 ⊢
  have HP6 := Lib.hid hp6
  have HS6 := Lib.hid hs6
  have hw04 : w.heap.size ≤ w4.heap.size := Nat.le_trans HF2.out.size (Nat.le_trans HF3.out.size hs34)
  have hbl : ∀ k, oB (.slice A5 (m.length + xs.length) c5) k → w4.heap.size ≤ k := fun k hk => by have := (own_lt HO5.out k (by simpa [List.length_append] using hk)).1; simpa using this
  have HBL := Lib.hid hbl
  have hown := own_base (own_frm HO5.out hs6 fun k hk h => by have := hbl k (by simpa [List.length_append] using hk); have h : k = p := h; omega) (base' := base) fun k hk => by have := hbl k (by simpa [List.length_append] using hk); omega
  rw [List.length_append] at hown
  have HA6 := Lib.hid hown
  have HSP : Hid (Spared w6 g xs) := Lib.hid ((HS3.out.frm' HF5.out).frm hs6 fun h => by have h : g = p := h; omega)
  have HI6 : Hid (IsH w6 b (m ++ xs)) := Lib.hid ((HI3.out.frm' HF5.out).frm hs6 fun h => HPB.out h.symm)
  have HF6 : Hid (Frm (isPH p (some b)) w w6) := Lib.hid (((HF2.out.any.trans (S := isPH p (some b)) HF3.out fun k _ hk => by have hk : k = b := hk; subst hk; exact .inr rfl).trans' HF5.out.any).trans hs6 fun k _ hk => .inl hk)
  have hs06 : w.heap.size ≤ w6.heap.size := HF6.out.size
  clear hp6 hs6 k6 hw6 k3 k1 k1f hbl hown
  go_wp2_with fail
  go_loopw [8] (fun i wr => ∃ (k : Nat) (ys : List UInt8), k ≤ xs.length ∧ i = .int .i64 k ∧ ys.length = xs.length ∧ Spared wr g ys ∧ Frm (isB g) w6 wr) (fun i _ => xs.length - (intOf i).toNat)
  case atStart => exact ⟨0, xs, Nat.zero_le _, rfl, rfl, HSP.out, Frm.refl _ _⟩
  case round =>
    obtain ⟨k, ys, hk, rfl, hyl, hS, hF⟩ := hrel
    have HS := Lib.hid hS
    have HF := Lib.hid hF
    have HYL := Lib.hid hyl
    clear hS hF hyl
    by_cases hlt : k < xs.length
    · obtain ⟨n, hc, hz⟩ := HS.out.at_ (j := k) (by have := HYL.out; omega)
      go_wp2_with fail
      obtain ⟨zs, e1, e2⟩ := HS.out.put (j := k) (by have := HYL.out; omega) (bits_lo_u8 .xor n 90) (bits_hi_u8 .xor n 90)
      exact ⟨⟨k + 1, zs, by omega, by go_num, by rw [e1]; exact HYL.out, e2, HF.out.setCell (.inl (show isB g g from rfl)) _⟩, by simp [intOf]; omega⟩
    · go_wp2_with fail
      go_ret
      refine ⟨rfl, some b, _, m ++ xs, ⟨HP6.out.frm HF.out (fun h => by have h : p = g := h; omega), ?_, fun b' e => ?_, (fun e => by cases e), hge, h2⟩, by simp, fun b' e => .inl e, HF6.out.trans HF.out fun k hk h => by have h : k = g := h; omega⟩
      · rw [List.length_append]
        exact own_frm HA6.out HF.out fun k hk h => by have := HBL.out k hk; have h : k = g := h; omega
      · injection e with e
        subst e
        exact ⟨HI6.out.frm HF.out (fun h => by have h : b = g := h; omega), hgb⟩
set_option maxRecDepth 100000 in
set_option maxHeartbeats 4000000 in
theorem step_sum (w : World) (base p b : Nat) (v : Value) (m : List UInt8) (wh tw : Int) (A : Option Addr) (n c : Nat) (hT : TabOk w) (hP : IsP w base p (some b) v m) (hl : m.length ≤ 4000000) :
    Calls Tryd.prog 30 #[.pointer (some ⟨p, 0, none⟩), .agg #[.int .i64 2, .int .i64 wh, .int .i64 tw, .slice A n c]] w (Stepped w base p (some b) m.length) := by
  obtain ⟨Av, cv, rfl, hcv⟩ := own_slice hP.all
  have hge := hP.ge
  have h2 := hP.two
  have hplt := hP.lt
  have HP := Lib.hid hP
  have HT := Lib.hid hT
  obtain ⟨hI, hgb⟩ := hP.hash b rfl
  have hblt := hI.lt
  have hpb : p ≠ b := by
    obtain ⟨cs, h⟩ := hI.blk_
    exact hP.blk.ne_ h (by decide)
  have HPB := Lib.hid hpb
  have HI := Lib.hid hI
  clear hP hI hT hpb
  have HF1 : Hid (Frm noB w (w.alloc (.cells #[.int .i64 2, .int .i64 wh, .int .i64 tw, .slice A n c] 50))) := Lib.hid ((Frm.refl noB w).alloc _)
  have d0 : (w.alloc (.cells #[.int .i64 2, .int .i64 wh, .int .i64 tw, .slice A n c] 50)).cell? ⟨p, 0, none⟩ = some (.pointer (some ⟨b, 0, none⟩)) := (HP.out.blk.frm' HF1.out).cell 0
  go_enter Tryd.func30, Tryd.ntmps30
  go_wp2_with fail
  refine (sum_any _ b m (HT.out.frm' HF1.out) (HI.out.frm' HF1.out) (by unfold HLen; omega)).mono ?_
  rintro _ w3 ⟨rfl, hf⟩
  have hf0 := hf
  obtain ⟨wz, hrun, hz, hfz⟩ := run_storeRow (P := Tryd.prog) (w := w3.alloc (.cells #[.int .u8 0, .int .u8 0, .int .u8 0, .int .u8 0, .int .u8 0, .int .u8 0, .int .u8 0, .int .u8 0, .int .u8 0, .int .u8 0, .int .u8 0, .int .u8 0, .int .u8 0, .int .u8 0, .int .u8 0, .int .u8 0, .int .u8 0, .int .u8 0, .int .u8 0, .int .u8 0, .int .u8 0, .int .u8 0, .int .u8 0, .int .u8 0, .int .u8 0, .int .u8 0, .int .u8 0, .int .u8 0, .int .u8 0, .int .u8 0, .int .u8 0, .int .u8 0] 26)) (Blk.new _ _ _) (cs := arr 32 (shaAt m)) (by rw [arr_size]; rfl) (one_arr fun i _ => rfl)
  have HZ := Lib.hid hz
  have HF : Hid (Frm noB w wz) := Lib.hid ((HF1.out.trans' hf).trans' (((Frm.refl noB w3).alloc (.cells #[.int .u8 0, .int .u8 0, .int .u8 0, .int .u8 0, .int .u8 0, .int .u8 0, .int .u8 0, .int .u8 0, .int .u8 0, .int .u8 0, .int .u8 0, .int .u8 0, .int .u8 0, .int .u8 0, .int .u8 0, .int .u8 0, .int .u8 0, .int .u8 0, .int .u8 0, .int .u8 0, .int .u8 0, .int .u8 0, .int .u8 0, .int .u8 0, .int .u8 0, .int .u8 0, .int .u8 0, .int .u8 0, .int .u8 0, .int .u8 0, .int .u8 0, .int .u8 0] 26)).trans hfz fun k hk h => by have h : k = w3.heap.size := h; omega))
  have hp := HP.out.blk.frm' HF.out
  have d1 : wz.cell? ⟨p, 1, none⟩ = some (.slice Av m.length cv) := hp.cell 1
  have d2 : wz.cell? ⟨p, 2, none⟩ = some (.bool false) := hp.cell 2
  clear hf hf0 hz hfz d0 hp
  try dsimp only
  go_wp2_with fail
  obtain ⟨cs, hcs⟩ : ∃ cs : List Value, cs = (List.range 32).map (shaAt m) := ⟨_, rfl⟩
  have harr : arr 32 (shaAt m) = cs.toArray := by rw [hcs]; rfl
  have HA := Lib.hid harr
  have hE : ∀ w : World, (Op.equalIn 10000 26 (.agg cs.toArray) (.agg cs.toArray)).run Tryd.prog w = .ok true w := fun w => by rw [← harr]; exact eq_sha' w m
  have HU : Hid (Tryd.prog.underlying 26 = some (.array 32 5)) := Lib.hid Tryd.underlying26
  have HSZ : Hid ((Tryd.prog.info? 26).map (·.size) = some cs.length) := Lib.hid (by rw [hcs, List.length_map, List.length_range]; rfl)
  have hr0 : wz.drew.rangeAt w3.heap.size 0 cs ∧ wz.drew.cell? ⟨p, 1, none⟩ = some (.slice Av m.length cv) := ⟨(HZ.out.frm' (Frm.refl noB wz).drew).range harr, d1⟩
  clear hcs harr hrun
  refine wp_region_held_drew (S := fun w' => w'.rangeAt w3.heap.size 0 cs ∧ w'.cell? ⟨p, 1, none⟩ = some (.slice Av m.length cv)) (by kernel_rfl) hr0 (fun hHeld => ?_)
  refine takeC (i := 0) (.agg cs.toArray) rfl (by kernel_rfl) (by kernel_rfl) (by kernel_rfl) (fun _ _ _ h => h) (yieldsIf_load_mid (by rfl) _ _ rfl w3.heap.size 0 rfl cs _ (fun w hw => hw.1) HU.out rfl HSZ.out) hr0 ?_
  try simp only [Act.put, List.setIfInBounds_toArray, List.set_cons_zero, List.set_cons_succ]
  refine takeC (i := 1) (.pointer (some ⟨p, 0, none⟩)) rfl (by kernel_rfl) (by kernel_rfl) (by kernel_rfl) (fun _ _ _ h => h) (Or.inl ⟨by rfl, fun w hw => by go_simp⟩) hr0 ?_
  try simp only [Act.put, List.setIfInBounds_toArray, List.set_cons_zero, List.set_cons_succ]
  refine takeC (i := 2) (.pointer (some ⟨p, 0, none⟩)) rfl (by kernel_rfl) (by kernel_rfl) (by kernel_rfl) (fun _ _ _ h => h) (Or.inl ⟨by rfl, fun w hw => by go_simp⟩) hr0 ?_
  try simp only [Act.put, List.setIfInBounds_toArray, List.set_cons_zero, List.set_cons_succ]
  refine takeC (i := 3) (.pointer (some ⟨p, 1, none⟩)) rfl (by kernel_rfl) (by kernel_rfl) (by kernel_rfl) (fun _ _ _ h => h) (Or.inl ⟨by rfl, fun w hw => by go_simp⟩) hr0 ?_
  try simp only [Act.put, List.setIfInBounds_toArray, List.set_cons_zero, List.set_cons_succ]
  refine takeC (i := 4) (.slice Av m.length cv) rfl (by kernel_rfl) (by kernel_rfl) (by kernel_rfl) (fun _ _ _ h => h) (Or.inl ⟨by rfl, fun w hw => by go_simp⟩) hr0 ?_
  try simp only [Act.put, List.setIfInBounds_toArray, List.set_cons_zero, List.set_cons_succ]
  refine consC (i := 5) rfl (by kernel_rfl) (fun K hK => ?_)
  go_simp
  go_at_call 19
  refine (rsum_any wz.drew Av m cv (Rd.of_own (own_frm' HP.out.all (HF.out.trans' (Frm.refl noB wz).drew))) (by unfold JLen; omega)).mono ?_
  rintro _ w6 ⟨rfl, hf⟩
  rw [HA.out]
  have HF6 : Hid (Frm noB w w6) := Lib.hid (HF.out.trans' ((Frm.refl noB wz).drew.trans' hf))
  have hr6 : w6.rangeAt w3.heap.size 0 cs ∧ w6.cell? ⟨p, 1, none⟩ = some (.slice Av m.length cv) := ⟨(HZ.out.frm' ((Frm.refl noB wz).drew.trans' hf)).range HA.out, (HP.out.blk.frm' HF6.out).cell 1⟩
  clear hf
  try dsimp only
  refine hK.out _ _ hr6 (fun hHeld => ?_)
  clear hK K
  try simp only [Act.put, List.setIfInBounds_toArray, List.set_cons_zero, List.set_cons_succ]
  refine takeC (i := 6) (.bool true) rfl (by kernel_rfl) (by kernel_rfl) (by kernel_rfl) (fun _ _ _ h => h) (Or.inl ⟨by rfl, fun w hw => by go_simp⟩) hr6 ?_
  try simp only [Act.put, List.setIfInBounds_toArray, List.set_cons_zero, List.set_cons_succ]
  refine takeC (i := 7) (.bool true) rfl (by kernel_rfl) (by kernel_rfl) (by kernel_rfl) (fun _ _ _ h => h) (Or.inl ⟨by rfl, fun w hw => by go_simp⟩) hr6 ?_
  try simp only [Act.put, List.setIfInBounds_toArray, List.set_cons_zero, List.set_cons_succ]
  refine wpAnyH_done (by kernel_rfl) ?_ _
  go_wp2_with fail
  go_ret
  exact ⟨rfl, some b, _, m, HP.out.frm' HF6.out, Nat.le_refl _, fun b' e => .inl e, HF6.out.any⟩

set_option maxRecDepth 100000 in
set_option maxHeartbeats 4000000 in
theorem step_sum_nil (w : World) (base p : Nat) (v : Value) (m : List UInt8) (wh tw : Int) (A : Option Addr) (n c : Nat) (hT : TabOk w) (hP : IsP w base p (none) v m) (hl : m.length ≤ 4000000) :
    Calls Tryd.prog 30 #[.pointer (some ⟨p, 0, none⟩), .agg #[.int .i64 2, .int .i64 wh, .int .i64 tw, .slice A n c]] w (Stepped w base p (none) m.length) := by
  obtain ⟨Av, cv, rfl, hcv⟩ := own_slice hP.all
  have hge := hP.ge
  have h2 := hP.two
  have hplt := hP.lt
  have HP := Lib.hid hP
  have HT := Lib.hid hT
  have hm0 := hP.nil rfl
  subst hm0
  clear hP hT
  have HF1 : Hid (Frm noB w (w.alloc (.cells #[.int .i64 2, .int .i64 wh, .int .i64 tw, .slice A n c] 50))) := Lib.hid ((Frm.refl noB w).alloc _)
  have d0 : (w.alloc (.cells #[.int .i64 2, .int .i64 wh, .int .i64 tw, .slice A n c] 50)).cell? ⟨p, 0, none⟩ = some (.pointer none) := (HP.out.blk.frm' HF1.out).cell 0
  go_enter Tryd.func30, Tryd.ntmps30
  go_wp2_with fail
  refine (sum_nil _).mono ?_
  rintro _ w3 ⟨rfl, hf⟩
  obtain ⟨wz, hrun, hz, hfz⟩ := run_storeRow (P := Tryd.prog) (w := w3.alloc (.cells #[.int .u8 0, .int .u8 0, .int .u8 0, .int .u8 0, .int .u8 0, .int .u8 0, .int .u8 0, .int .u8 0, .int .u8 0, .int .u8 0, .int .u8 0, .int .u8 0, .int .u8 0, .int .u8 0, .int .u8 0, .int .u8 0, .int .u8 0, .int .u8 0, .int .u8 0, .int .u8 0, .int .u8 0, .int .u8 0, .int .u8 0, .int .u8 0, .int .u8 0, .int .u8 0, .int .u8 0, .int .u8 0, .int .u8 0, .int .u8 0, .int .u8 0, .int .u8 0] 26)) (Blk.new _ _ _) (cs := arr 32 fun _ => bv 0) (by rw [arr_size]; rfl) (one_arr fun i _ => rfl)
  have HZ := Lib.hid hz
  have HF : Hid (Frm noB w wz) := Lib.hid ((HF1.out.trans' hf).trans' (((Frm.refl noB w3).alloc (.cells #[.int .u8 0, .int .u8 0, .int .u8 0, .int .u8 0, .int .u8 0, .int .u8 0, .int .u8 0, .int .u8 0, .int .u8 0, .int .u8 0, .int .u8 0, .int .u8 0, .int .u8 0, .int .u8 0, .int .u8 0, .int .u8 0, .int .u8 0, .int .u8 0, .int .u8 0, .int .u8 0, .int .u8 0, .int .u8 0, .int .u8 0, .int .u8 0, .int .u8 0, .int .u8 0, .int .u8 0, .int .u8 0, .int .u8 0, .int .u8 0, .int .u8 0, .int .u8 0] 26)).trans hfz fun k hk h => by have h : k = w3.heap.size := h; omega))
  have hp := HP.out.blk.frm' HF.out
  have d2 : wz.cell? ⟨p, 2, none⟩ = some (.bool true) := hp.cell 2
  have hE : ∀ w : World, (Op.equalIn 10000 26 (.agg (arr 32 fun _ => bv 0)) (.agg #[.int .u8 0, .int .u8 0, .int .u8 0, .int .u8 0, .int .u8 0, .int .u8 0, .int .u8 0, .int .u8 0, .int .u8 0, .int .u8 0, .int .u8 0, .int .u8 0, .int .u8 0, .int .u8 0, .int .u8 0, .int .u8 0, .int .u8 0, .int .u8 0, .int .u8 0, .int .u8 0, .int .u8 0, .int .u8 0, .int .u8 0, .int .u8 0, .int .u8 0, .int .u8 0, .int .u8 0, .int .u8 0, .int .u8 0, .int .u8 0, .int .u8 0, .int .u8 0])).run Tryd.prog w = .ok true w := fun w => by kernel_rfl
  clear hf hz hfz d0 hp
  unfold zH
  try dsimp only
  go_wp2_with (refine wpList_load_row rfl _ _ rfl w3.heap.size rfl 26 _ (0, 0) _ HZ.out Tryd.underlying26 rfl (by rw [arr_size]; kernel_rfl) ?_)
  go_ret
  exact ⟨rfl, none, _, [], HP.out.frm' HF.out, Nat.le_refl _, fun b' e => .inl e, HF.out.any⟩

set_option maxRecDepth 100000 in
set_option maxHeartbeats 4000000 in
theorem step_len (w : World) (base p b : Nat) (v : Value) (m : List UInt8) (wh tw : Int) (A : Option Addr) (n c : Nat) (hT : TabOk w) (hP : IsP w base p (some b) v m) (hl : m.length ≤ 4000000) :
    Calls Tryd.prog 30 #[.pointer (some ⟨p, 0, none⟩), .agg #[.int .i64 3, .int .i64 wh, .int .i64 tw, .slice A n c]] w (Stepped w base p (some b) m.length) := by
  obtain ⟨Av, cv, rfl, hcv⟩ := own_slice hP.all
  have hge := hP.ge
  have h2 := hP.two
  have hplt := hP.lt
  have HP := Lib.hid hP
  have HT := Lib.hid hT
  obtain ⟨hI, hgb⟩ := hP.hash b rfl
  have hblt := hI.lt
  have hpb : p ≠ b := by
    obtain ⟨cs, h⟩ := hI.blk_
    exact hP.blk.ne_ h (by decide)
  have HPB := Lib.hid hpb
  have HI := Lib.hid hI
  clear hP hI hT hpb
  have HF1 : Hid (Frm noB w (w.alloc (.cells #[.int .i64 3, .int .i64 wh, .int .i64 tw, .slice A n c] 50))) := Lib.hid ((Frm.refl noB w).alloc _)
  have d0 : (w.alloc (.cells #[.int .i64 3, .int .i64 wh, .int .i64 tw, .slice A n c] 50)).cell? ⟨p, 0, none⟩ = some (.pointer (some ⟨b, 0, none⟩)) := (HP.out.blk.frm' HF1.out).cell 0
  have d1 : (w.alloc (.cells #[.int .i64 3, .int .i64 wh, .int .i64 tw, .slice A n c] 50)).cell? ⟨p, 1, none⟩ = some (.slice Av m.length cv) := (HP.out.blk.frm' HF1.out).cell 1
  go_enter Tryd.func30, Tryd.ntmps30
  go_wp2_with fail
  refine (len_any _ b m (HI.out.frm' HF1.out)).mono ?_
  rintro _ _ ⟨rfl, rfl⟩
  try dsimp only
  go_wp2_with fail
  go_ret
  exact ⟨ret_bool (by simp), some b, _, m, HP.out.frm' HF1.out, Nat.le_refl _, fun b' e => .inl e, HF1.out.any⟩

set_option maxRecDepth 100000 in
set_option maxHeartbeats 4000000 in
theorem step_len_nil (w : World) (base p : Nat) (v : Value) (m : List UInt8) (wh tw : Int) (A : Option Addr) (n c : Nat) (hT : TabOk w) (hP : IsP w base p (none) v m) (hl : m.length ≤ 4000000) :
    Calls Tryd.prog 30 #[.pointer (some ⟨p, 0, none⟩), .agg #[.int .i64 3, .int .i64 wh, .int .i64 tw, .slice A n c]] w (Stepped w base p (none) m.length) := by
  obtain ⟨Av, cv, rfl, hcv⟩ := own_slice hP.all
  have hge := hP.ge
  have h2 := hP.two
  have hplt := hP.lt
  have HP := Lib.hid hP
  have HT := Lib.hid hT
  have hm0 := hP.nil rfl
  subst hm0
  clear hP hT
  have HF1 : Hid (Frm noB w (w.alloc (.cells #[.int .i64 3, .int .i64 wh, .int .i64 tw, .slice A n c] 50))) := Lib.hid ((Frm.refl noB w).alloc _)
  have d0 : (w.alloc (.cells #[.int .i64 3, .int .i64 wh, .int .i64 tw, .slice A n c] 50)).cell? ⟨p, 0, none⟩ = some (.pointer none) := (HP.out.blk.frm' HF1.out).cell 0
  have d1 : (w.alloc (.cells #[.int .i64 3, .int .i64 wh, .int .i64 tw, .slice A n c] 50)).cell? ⟨p, 1, none⟩ = some (.slice Av 0 cv) := (HP.out.blk.frm' HF1.out).cell 1
  go_enter Tryd.func30, Tryd.ntmps30
  go_wp2_with fail
  refine (len_nil _).mono ?_
  rintro _ _ ⟨rfl, rfl⟩
  try dsimp only
  go_wp2_with fail
  go_ret
  exact ⟨rfl, none, _, [], HP.out.frm' HF1.out, Nat.le_refl _, fun b' e => .inl e, HF1.out.any⟩

set_option maxRecDepth 100000 in
set_option maxHeartbeats 4000000 in
theorem step_reset (w : World) (base p b : Nat) (v : Value) (m : List UInt8) (wh tw : Int) (A : Option Addr) (n c : Nat) (hT : TabOk w) (hP : IsP w base p (some b) v m) (hl : m.length ≤ 4000000) :
    Calls Tryd.prog 30 #[.pointer (some ⟨p, 0, none⟩), .agg #[.int .i64 5, .int .i64 wh, .int .i64 tw, .slice A n c]] w (Stepped w base p (some b) m.length) := by
  obtain ⟨Av, cv, rfl, hcv⟩ := own_slice hP.all
  have hge := hP.ge
  have h2 := hP.two
  have hplt := hP.lt
  have HP := Lib.hid hP
  have HT := Lib.hid hT
  obtain ⟨hI, hgb⟩ := hP.hash b rfl
  have hblt := hI.lt
  have hpb : p ≠ b := by
    obtain ⟨cs, h⟩ := hI.blk_
    exact hP.blk.ne_ h (by decide)
  have HPB := Lib.hid hpb
  have HI := Lib.hid hI
  clear hP hI hT hpb
  have HF1 : Hid (Frm noB w (w.alloc (.cells #[.int .i64 5, .int .i64 wh, .int .i64 tw, .slice A n c] 50))) := Lib.hid ((Frm.refl noB w).alloc _)
  have d0 : (w.alloc (.cells #[.int .i64 5, .int .i64 wh, .int .i64 tw, .slice A n c] 50)).cell? ⟨p, 0, none⟩ = some (.pointer (some ⟨b, 0, none⟩)) := (HP.out.blk.frm' HF1.out).cell 0
  go_enter Tryd.func30, Tryd.ntmps30
  go_wp2_with fail
  refine (reset_is _ b m (HT.out.frm' HF1.out) (HI.out.frm' HF1.out)).mono ?_
  rintro _ w3 ⟨rfl, hI3, hf3⟩
  have hp3 := (HP.out.blk.frm' HF1.out).frm hf3 (fun h => HPB.out h)
  have HP3 := Lib.hid hp3
  have HI3 := Lib.hid hI3
  have HF3 := Lib.hid hf3
  have e1 : w3.cell? ⟨p, 1, none⟩ = some (.slice Av m.length cv) := hp3.cell 1
  have e1f := hp3.frozen 1
  clear hp3 hI3 hf3 d0
  try dsimp only
  go_wp2_with fail
  go_ret
  have hs : Frm (fun k => k = p) w3 (w3.setCell ⟨p, 1, none⟩ (.slice none 0 0)) := Frm.setCell (S := fun k => k = p) (Frm.refl _ _) (.inl rfl) _
  refine ⟨rfl, some b, _, [], ⟨HP3.out.set_ 1 _, World.ownsRow_nil _ _ _ _, fun b' e => ?_, (fun e => by cases e), hge, h2⟩, Nat.zero_le _, fun b' e => .inl e, (HF1.out.any.trans (S := isPH p (some b)) HF3.out fun k _ hk => by have hk : k = b := hk; subst hk; exact .inr rfl).trans hs fun k _ hk => .inl hk⟩
  injection e with e
  subst e
  exact ⟨HI3.out.frm hs (fun h => HPB.out h.symm), hgb⟩

set_option maxRecDepth 100000 in
set_option maxHeartbeats 4000000 in
theorem step_reset_nil (w : World) (base p : Nat) (v : Value) (m : List UInt8) (wh tw : Int) (A : Option Addr) (n c : Nat) (hT : TabOk w) (hP : IsP w base p (none) v m) (hl : m.length ≤ 4000000) :
    Calls Tryd.prog 30 #[.pointer (some ⟨p, 0, none⟩), .agg #[.int .i64 5, .int .i64 wh, .int .i64 tw, .slice A n c]] w (Stepped w base p (none) m.length) := by
  obtain ⟨Av, cv, rfl, hcv⟩ := own_slice hP.all
  have hge := hP.ge
  have h2 := hP.two
  have hplt := hP.lt
  have HP := Lib.hid hP
  have HT := Lib.hid hT
  have hm0 := hP.nil rfl
  subst hm0
  clear hP hT
  have HF1 : Hid (Frm noB w (w.alloc (.cells #[.int .i64 5, .int .i64 wh, .int .i64 tw, .slice A n c] 50))) := Lib.hid ((Frm.refl noB w).alloc _)
  have d0 : (w.alloc (.cells #[.int .i64 5, .int .i64 wh, .int .i64 tw, .slice A n c] 50)).cell? ⟨p, 0, none⟩ = some (.pointer none) := (HP.out.blk.frm' HF1.out).cell 0
  have d1 : (w.alloc (.cells #[.int .i64 5, .int .i64 wh, .int .i64 tw, .slice A n c] 50)).cell? ⟨p, 1, none⟩ = some (.slice Av 0 cv) := (HP.out.blk.frm' HF1.out).cell 1
  have d1f := (HP.out.blk.frm' HF1.out).frozen 1
  go_enter Tryd.func30, Tryd.ntmps30
  go_wp2_with fail
  refine (reset_nil _).mono ?_
  rintro _ _ ⟨rfl, rfl⟩
  try dsimp only
  go_wp2_with fail
  go_ret
  exact ⟨rfl, none, _, [], ⟨(HP.out.blk.set_ 1 (.slice none 0 0)).alloc _, World.ownsRow_nil _ _ _ _, (fun b' e => by cases e), fun _ => rfl, hge, h2⟩, Nat.zero_le _, fun b' e => .inl e, (Frm.setCell (S := isPH p none) (Frm.refl _ _) (Or.inl (Or.inl rfl)) _).alloc _⟩

set_option maxRecDepth 100000 in
set_option maxHeartbeats 4000000 in
theorem step_new (w : World) (base p b : Nat) (v : Value) (m : List UInt8) (wh tw : Int) (A : Option Addr) (n c : Nat) (hT : TabOk w) (hP : IsP w base p (some b) v m) (hl : m.length ≤ 4000000) :
    Calls Tryd.prog 30 #[.pointer (some ⟨p, 0, none⟩), .agg #[.int .i64 6, .int .i64 wh, .int .i64 tw, .slice A n c]] w (Stepped w base p (some b) m.length) := by
  obtain ⟨Av, cv, rfl, hcv⟩ := own_slice hP.all
  have hge := hP.ge
  have h2 := hP.two
  have hplt := hP.lt
  have HP := Lib.hid hP
  have HT := Lib.hid hT
  obtain ⟨hI, hgb⟩ := hP.hash b rfl
  have hblt := hI.lt
  have hpb : p ≠ b := by
    obtain ⟨cs, h⟩ := hI.blk_
    exact hP.blk.ne_ h (by decide)
  have HPB := Lib.hid hpb
  have HI := Lib.hid hI
  clear hP hI hT hpb
  have HF1 : Hid (Frm noB w (w.alloc (.cells #[.int .i64 6, .int .i64 wh, .int .i64 tw, .slice A n c] 50))) := Lib.hid ((Frm.refl noB w).alloc _)
  go_enter Tryd.func30, Tryd.ntmps30
  go_wp2_with fail
  refine (new_any _ (HT.out.frm' HF1.out)).mono ?_
  rintro _ w3 ⟨q, rfl, hq, hI3, hf3⟩
  have hqw : w.heap.size < q := by simp at hq; omega
  have HF3 : Hid (Frm noB w w3) := Lib.hid (HF1.out.trans' hf3)
  have HI3 := Lib.hid hI3
  have hp3 := HP.out.blk.frm' HF3.out
  have HP3 := Lib.hid hp3
  have e0 : w3.cell? ⟨p, 0, none⟩ = some _ := hp3.cell 0
  have e1 : w3.cell? ⟨p, 1, none⟩ = some _ := hp3.cell 1
  have e2 : w3.cell? ⟨p, 2, none⟩ = some _ := hp3.cell 2
  have f0 := hp3.frozen 0
  have f1 := hp3.frozen 1
  have f2 := hp3.frozen 2
  clear hp3 hI3 hf3 hq
  try dsimp only
  go_wp2_with fail
  go_ret
  have hs : Frm (fun k => k = p) w3 (((w3.setCell ⟨p, 0, none⟩ (.pointer (some ⟨q, 0, none⟩))).setCell ⟨p, 1, none⟩ (.slice none 0 0)).setCell ⟨p, 2, none⟩ (.bool false)) := Frm.setCell (S := fun k => k = p) (Frm.setCell (S := fun k => k = p) (Frm.setCell (S := fun k => k = p) (Frm.refl _ _) (.inl rfl) _) (.inl rfl) _) (.inl rfl) _
  refine ⟨rfl, some q, _, [], ⟨((HP3.out.set_ 0 (.pointer (some ⟨q, 0, none⟩))).set_ 1 (.slice none 0 0)).set_ 2 (.bool false), World.ownsRow_nil _ _ _ _, fun b' e => ?_, (fun e => by cases e), hge, h2⟩, Nat.zero_le _, fun b' e => ?_, HF3.out.any.trans hs fun k _ hk => .inl hk⟩
  · injection e with e
    subst e
    exact ⟨HI3.out.frm hs (fun h => by have h : q = p := h; omega), by omega⟩
  · injection e with e
    subst e
    exact .inr (by omega)

set_option maxRecDepth 100000 in
set_option maxHeartbeats 4000000 in
theorem step_no (w : World) (base p b : Nat) (v : Value) (m : List UInt8) (wh tw : Int) (A : Option Addr) (n c : Nat) (hT : TabOk w) (hP : IsP w base p (some b) v m) (hl : m.length ≤ 4000000) :
    Calls Tryd.prog 30 #[.pointer (some ⟨p, 0, none⟩), .agg #[.int .i64 7, .int .i64 wh, .int .i64 tw, .slice A n c]] w (Stepped w base p (some b) m.length) := by
  obtain ⟨Av, cv, rfl, hcv⟩ := own_slice hP.all
  have hge := hP.ge
  have h2 := hP.two
  have hplt := hP.lt
  have HP := Lib.hid hP
  have HT := Lib.hid hT
  obtain ⟨hI, hgb⟩ := hP.hash b rfl
  have hblt := hI.lt
  have hpb : p ≠ b := by
    obtain ⟨cs, h⟩ := hI.blk_
    exact hP.blk.ne_ h (by decide)
  have HPB := Lib.hid hpb
  have HI := Lib.hid hI
  clear hP hI hT hpb
  have HF1 : Hid (Frm noB w (w.alloc (.cells #[.int .i64 7, .int .i64 wh, .int .i64 tw, .slice A n c] 50))) := Lib.hid ((Frm.refl noB w).alloc _)
  have hp3 := HP.out.blk
  have HP3 := Lib.hid hp3
  have e0 : w.cell? ⟨p, 0, none⟩ = some _ := hp3.cell 0
  have e1 : w.cell? ⟨p, 1, none⟩ = some _ := hp3.cell 1
  have e2 : w.cell? ⟨p, 2, none⟩ = some _ := hp3.cell 2
  have f0 := hp3.frozen 0
  have f1 := hp3.frozen 1
  have f2 := hp3.frozen 2
  clear hp3
  go_enter Tryd.func30, Tryd.ntmps30
  go_wp2_with fail
  go_ret
  exact ⟨rfl, none, _, [], ⟨(((HP3.out.set_ 0 (.pointer none)).set_ 1 (.slice none 0 0)).set_ 2 (.bool true)).alloc _, World.ownsRow_nil _ _ _ _, (fun b' e => by cases e), fun _ => rfl, hge, h2⟩, Nat.zero_le _, (fun b' e => by cases e), (Frm.setCell (S := isPH p (some b)) (Frm.setCell (S := isPH p (some b)) (Frm.setCell (S := isPH p (some b)) (Frm.refl _ _) (Or.inl (Or.inl rfl)) _) (Or.inl (Or.inl rfl)) _) (Or.inl (Or.inl rfl)) _).alloc _⟩

set_option maxRecDepth 100000 in
set_option maxHeartbeats 4000000 in
theorem step_new_nil (w : World) (base p : Nat) (v : Value) (m : List UInt8) (wh tw : Int) (A : Option Addr) (n c : Nat) (hT : TabOk w) (hP : IsP w base p (none) v m) (hl : m.length ≤ 4000000) :
    Calls Tryd.prog 30 #[.pointer (some ⟨p, 0, none⟩), .agg #[.int .i64 6, .int .i64 wh, .int .i64 tw, .slice A n c]] w (Stepped w base p (none) m.length) := by
  obtain ⟨Av, cv, rfl, hcv⟩ := own_slice hP.all
  have hge := hP.ge
  have h2 := hP.two
  have hplt := hP.lt
  have HP := Lib.hid hP
  have HT := Lib.hid hT
  have hm0 := hP.nil rfl
  subst hm0
  clear hP hT
  have HF1 : Hid (Frm noB w (w.alloc (.cells #[.int .i64 6, .int .i64 wh, .int .i64 tw, .slice A n c] 50))) := Lib.hid ((Frm.refl noB w).alloc _)
  go_enter Tryd.func30, Tryd.ntmps30
  go_wp2_with fail
  refine (new_any _ (HT.out.frm' HF1.out)).mono ?_
  rintro _ w3 ⟨q, rfl, hq, hI3, hf3⟩
  have hqw : w.heap.size < q := by simp at hq; omega
  have HF3 : Hid (Frm noB w w3) := Lib.hid (HF1.out.trans' hf3)
  have HI3 := Lib.hid hI3
  have hp3 := HP.out.blk.frm' HF3.out
  have HP3 := Lib.hid hp3
  have e0 : w3.cell? ⟨p, 0, none⟩ = some _ := hp3.cell 0
  have e1 : w3.cell? ⟨p, 1, none⟩ = some _ := hp3.cell 1
  have e2 : w3.cell? ⟨p, 2, none⟩ = some _ := hp3.cell 2
  have f0 := hp3.frozen 0
  have f1 := hp3.frozen 1
  have f2 := hp3.frozen 2
  clear hp3 hI3 hf3 hq
  try dsimp only
  go_wp2_with fail
  go_ret
  have hs : Frm (fun k => k = p) w3 (((w3.setCell ⟨p, 0, none⟩ (.pointer (some ⟨q, 0, none⟩))).setCell ⟨p, 1, none⟩ (.slice none 0 0)).setCell ⟨p, 2, none⟩ (.bool false)) := Frm.setCell (S := fun k => k = p) (Frm.setCell (S := fun k => k = p) (Frm.setCell (S := fun k => k = p) (Frm.refl _ _) (.inl rfl) _) (.inl rfl) _) (.inl rfl) _
  refine ⟨rfl, some q, _, [], ⟨((HP3.out.set_ 0 (.pointer (some ⟨q, 0, none⟩))).set_ 1 (.slice none 0 0)).set_ 2 (.bool false), World.ownsRow_nil _ _ _ _, fun b' e => ?_, (fun e => by cases e), hge, h2⟩, Nat.zero_le _, fun b' e => ?_, HF3.out.any.trans hs fun k _ hk => .inl hk⟩
  · injection e with e
    subst e
    exact ⟨HI3.out.frm hs (fun h => by have h : q = p := h; omega), by omega⟩
  · injection e with e
    subst e
    exact .inr (by omega)

set_option maxRecDepth 100000 in
set_option maxHeartbeats 4000000 in
theorem step_no_nil (w : World) (base p : Nat) (v : Value) (m : List UInt8) (wh tw : Int) (A : Option Addr) (n c : Nat) (hT : TabOk w) (hP : IsP w base p (none) v m) (hl : m.length ≤ 4000000) :
    Calls Tryd.prog 30 #[.pointer (some ⟨p, 0, none⟩), .agg #[.int .i64 7, .int .i64 wh, .int .i64 tw, .slice A n c]] w (Stepped w base p (none) m.length) := by
  obtain ⟨Av, cv, rfl, hcv⟩ := own_slice hP.all
  have hge := hP.ge
  have h2 := hP.two
  have hplt := hP.lt
  have HP := Lib.hid hP
  have HT := Lib.hid hT
  have hm0 := hP.nil rfl
  subst hm0
  clear hP hT
  have HF1 : Hid (Frm noB w (w.alloc (.cells #[.int .i64 7, .int .i64 wh, .int .i64 tw, .slice A n c] 50))) := Lib.hid ((Frm.refl noB w).alloc _)
  have hp3 := HP.out.blk
  have HP3 := Lib.hid hp3
  have e0 : w.cell? ⟨p, 0, none⟩ = some _ := hp3.cell 0
  have e1 : w.cell? ⟨p, 1, none⟩ = some _ := hp3.cell 1
  have e2 : w.cell? ⟨p, 2, none⟩ = some _ := hp3.cell 2
  have f0 := hp3.frozen 0
  have f1 := hp3.frozen 1
  have f2 := hp3.frozen 2
  clear hp3
  go_enter Tryd.func30, Tryd.ntmps30
  go_wp2_with fail
  go_ret
  exact ⟨rfl, none, _, [], ⟨(((HP3.out.set_ 0 (.pointer none)).set_ 1 (.slice none 0 0)).set_ 2 (.bool true)).alloc _, World.ownsRow_nil _ _ _ _, (fun b' e => by cases e), fun _ => rfl, hge, h2⟩, Nat.zero_le _, (fun b' e => by cases e), (Frm.setCell (S := isPH p (none)) (Frm.setCell (S := isPH p (none)) (Frm.setCell (S := isPH p (none)) (Frm.refl _ _) (Or.inl (Or.inl rfl)) _) (Or.inl (Or.inl rfl)) _) (Or.inl (Or.inl rfl)) _).alloc _⟩

set_option maxRecDepth 100000 in
set_option maxHeartbeats 4000000 in
theorem step_write_nil (w : World) (base p : Nat) (v : Value) (m : List UInt8) (wh tw : Int) (A : Option Addr) (xs : List UInt8) (c : Nat) (hT : TabOk w) (hP : IsP w base p none v m) (hx : Rd w A (xs.map bv)) (hl : xs.length ≤ 4000000) :
    Calls Tryd.prog 30 #[.pointer (some ⟨p, 0, none⟩), .agg #[.int .i64 1, .int .i64 wh, .int .i64 tw, .slice A xs.length c]] w (Stepped w base p none m.length) := by
  have HP := Lib.hid hP
  have HX := Lib.hid hx
  have heq : ∀ W : World, (binOp .eql 36 (.iface 77 (.int .i64 1)) (.iface 77 (.int .i64 1))).run Tryd.prog W = .ok (.bool true) W := fun W => by kernel_rfl
  clear hP hx hT
  go_enter Tryd.func30, Tryd.ntmps30
  go_wp2_with fail
  refine (spare_any A xs c _ (HX.out.alloc _) (by omega)).mono ?_
  rintro _ w2 ⟨g, rfl, hg, hS, hf⟩
  have hbx := (Blk.new w 50 #[.int .i64 1, .int .i64 wh, .int .i64 tw, .slice A xs.length c]).frm' hf
  have HF2 : Hid (Frm noB w w2) := Lib.hid (((Frm.refl noB w).alloc _).trans' hf)
  have HS2 := Lib.hid hS
  have hp := HP.out.blk.frm' HF2.out
  have d0 : w2.cell? ⟨p, 0, none⟩ = some (.pointer none) := hp.cell 0
  have d2 : w2.cell? ⟨p, 2, none⟩ = some (.bool true) := hp.cell 2
  have d3 : w2.cell? ⟨w.heap.size, 3, none⟩ = some (.slice A xs.length c) := hbx.cell 3
  clear hS hf hg hbx hp
  try dsimp only
  go_wp2_with fail
  refine (write_nil w2 _ _ _).mono ?_
  rintro _ _ ⟨rfl, rfl⟩
  try dsimp only
  go_wp2_with fail
  refine (kept_q g A xs c w2 HS2.out (HX.out.frm' HF2.out) (by omega)).mono ?_
  rintro _ w4 ⟨rfl, nq, hw4⟩
  have f34 : Frm noB w w4 := HF2.out.trans' (hw4 ▸ Frm.of_drewN _ _ _)
  clear hw4
  try dsimp only
  go_wp2_with fail
  go_ret
  exact ⟨rfl, none, _, m, HP.out.frm' f34, Nat.le_refl _, fun b' e => .inl e, f34.any⟩

set_option maxRecDepth 100000 in
set_option maxHeartbeats 4000000 in
theorem step_other (w : World) (base p : Nat) (h : Option Nat) (v : Value) (m : List UInt8) (kind wh tw : Int) (A : Option Addr) (n c : Nat) (hP : IsP w base p h v m) (n1 : kind ≠ 1) (n2 : kind ≠ 2) (n3 : kind ≠ 3) (n5 : kind ≠ 5) (n6 : kind ≠ 6) (n7 : kind ≠ 7) :
    Calls Tryd.prog 30 #[.pointer (some ⟨p, 0, none⟩), .agg #[.int .i64 kind, .int .i64 wh, .int .i64 tw, .slice A n c]] w (Stepped w base p h m.length) := by
  have HP := Lib.hid hP
  have t1 : (kind == 1) = false := by simpa using n1
  have t2 : (kind == 2) = false := by simpa using n2
  have t3 : (kind == 3) = false := by simpa using n3
  have t5 : (kind == 5) = false := by simpa using n5
  have t6 : (kind == 6) = false := by simpa using n6
  have t7 : (kind == 7) = false := by simpa using n7
  have HF1 : Hid (Frm noB w (w.alloc (.cells #[.int .i64 kind, .int .i64 wh, .int .i64 tw, .slice A n c] 50))) := Lib.hid ((Frm.refl noB w).alloc _)
  clear hP n1 n2 n3 n5 n6 n7
  go_enter Tryd.func30, Tryd.ntmps30
  go_wp2_with fail
  go_ret
  exact ⟨rfl, h, v, m, HP.out.frm' HF1.out, Nat.le_refl _, fun b' e => .inl e, HF1.out.any⟩

/-- any step -/
theorem stepped_any (w : World) (base p : Nat) (h : Option Nat) (v : Value) (m : List UInt8) (kind wh tw : Int) (A : Option Addr) (xs : List UInt8) (c : Nat) (hT : TabOk w) (hP : IsP w base p h v m) (hx : Rd w A (xs.map bv)) (hN : xs ≠ [] → ∀ q, aB A q → q < base) (hc : xs.length ≤ c) (hl : m.length + xs.length ≤ 4000000) :
    Calls Tryd.prog 30 #[.pointer (some ⟨p, 0, none⟩), .agg #[.int .i64 kind, .int .i64 wh, .int .i64 tw, .slice A xs.length c]] w (Stepped w base p h (m.length + xs.length)) := by
  have le : ∀ e w', Stepped w base p h m.length e w' → Stepped w base p h (m.length + xs.length) e w' := fun e w' ⟨h1, h', v', m', h2, h3, h4⟩ => ⟨h1, h', v', m', h2, by omega, h4⟩
  by_cases e1 : kind = 1
  · subst e1
    cases h with
    | none => exact (step_write_nil w base p v m wh tw A xs c hT hP hx (by omega)).mono le
    | some b => exact step_write w base p b v m wh tw A xs c hT hP hx hN hc hl
  refine Calls.mono ?_ le
  by_cases e2 : kind = 2
  · subst e2
    cases h with
    | none => exact step_sum_nil w base p v m wh tw A _ c hT hP (by omega)
    | some b => exact step_sum w base p b v m wh tw A _ c hT hP (by omega)
  by_cases e3 : kind = 3
  · subst e3
    cases h with
    | none => exact step_len_nil w base p v m wh tw A _ c hT hP (by omega)
    | some b => exact step_len w base p b v m wh tw A _ c hT hP (by omega)
  by_cases e5 : kind = 5
  · subst e5
    cases h with
    | none => exact step_reset_nil w base p v m wh tw A _ c hT hP (by omega)
    | some b => exact step_reset w base p b v m wh tw A _ c hT hP (by omega)
  by_cases e6 : kind = 6
  · subst e6
    cases h with
    | none => exact step_new_nil w base p v m wh tw A _ c hT hP (by omega)
    | some b => exact step_new w base p b v m wh tw A _ c hT hP (by omega)
  by_cases e7 : kind = 7
  · subst e7
    cases h with
    | none => exact step_no_nil w base p v m wh tw A _ c hT hP (by omega)
    | some b => exact step_no w base p b v m wh tw A _ c hT hP (by omega)
  exact step_other w base p h v m kind wh tw A _ c hP e1 e2 e3 e5 e6 e7
end Go.Proofs.YtkhakddecmgejaaDoor
