/-
  derive: Sum, Check, Extract.
-/
import Derived.Test.YtkhakddecmgejaaDoorMac2
import Derived.Test.YtkhakddecmgejaaDoorWorks03
namespace Go.Proofs.YtkhakddecmgejaaDoor
open Go.RowKit
set_option linter.unusedVariables false
set_option linter.unusedSimpArgs false

set_option maxRecDepth 100000 in
set_option maxHeartbeats 2000000 in
theorem dersum_any (w : World) (A B : Option Addr) (key : List UInt8) (xss : List (List UInt8)) (cap c : Nat) {N : Nat → Prop} (hT : TabOk w) (hx : Rd w A (key.map bv)) (hc : key.length ≤ cap) (hl : key.length ≤ 1000000000) (hr : RdRows w B xss N) (hf : xss.flatten.length ≤ 1000000000) (hn : xss.length ≤ 1000000000) :
    Calls Tryd.prog 41 #[.slice A key.length cap, .slice B xss.length c] w fun e w' => e = .returned (.agg (arr 32 (shaAt (macT key xss.flatten)))) ∧ Frm noB w w' := by
  have HT := Lib.hid hT
  have HX := Lib.hid hx
  have HR := Lib.hid hr
  obtain ⟨mt, hmt⟩ : ∃ mt, mt = macT key xss.flatten := ⟨_, rfl⟩
  have HMT := Lib.hid hmt
  rw [← hmt]
  clear hT hx hr hmt
  go_enter Tryd.func41, Tryd.ntmps41
  go_upto_region 1 with fail
  have hr0 : Blk (w.alloc (.cells (arr 32 fun _ => bv 0) 26)) w.heap.size 26 (arr 32 fun _ => bv 0) := Blk.new _ _ _
  have hf0 : Frm noB w (w.alloc (.cells (arr 32 fun _ => bv 0) 26)) := (Frm.refl _ _).alloc _
  change Code.wp _ _ _ _ (w.alloc (.cells (arr 32 fun _ => bv 0) 26))
  generalize w.alloc (.cells (arr 32 fun _ => bv 0) 26) = w1 at *
  have HR0 := Lib.hid hr0
  have HF0 := Lib.hid hf0
  have hs1 : w.heap.size < w1.heap.size := hr0.lt
  clear hr0 hf0
  go_wp2_with fail
  refine (newmac_any w1 A key cap (HT.out.frm' HF0.out) (HX.out.frm' HF0.out) hc hl).mono ?_
  rintro _ w2 ⟨mm, b, rfl, hm, hb, hM, hf2⟩
  have HM := Lib.hid hM
  have HF2 := Lib.hid hf2
  clear hM hf2
  try dsimp only
  go_wp2_with fail
  go_loopw [12] (fun i wr => ∃ k : Nat, k ≤ xss.length ∧ i = .int .i64 k ∧ IsMac wr mm b key (xss.take k).flatten ∧ Frm noB w1 wr) (fun i _ => xss.length - (intOf i).toNat)
  case atStart => exact ⟨0, Nat.zero_le _, rfl, HM.out, HF2.out⟩
  case round =>
    clear HM HF2
    obtain ⟨k, hk, rfl, hM, hF⟩ := hrel
    have HM := Lib.hid hM
    have HF := Lib.hid hF
    clear hM hF
    by_cases hlt : k < xss.length
    · obtain ⟨bo, o, Ai, ci, rfl, hc', hcc, hri, _, _⟩ := HR.out.at hlt
      have hc0 := (HF0.out.trans' HF.out).cell_some hc' (fun h => h)
      have hfk := flat_le xss k
      have hek := elem_le xss hlt
      have hne : xss[k] ≠ [] → ∀ q, aB Ai q → q ≠ b := fun hne q hq => by
        have := hri.lt (by simpa using List.length_pos_iff.2 hne) q hq
        omega
      have HW := Lib.hid (macwrite_any wr mm b key (xss.take k).flatten Ai xss[k] ci (HT.out.frm' (HF0.out.trans' HF.out)) HM.out (hri.frm' (HF0.out.trans' HF.out)) hne hcc (by omega) (by omega))
      clear hne hri hc'
      go_wp2_with fail
      refine HW.out.mono ?_
      rintro _ w5 ⟨rfl, hM5, hf5⟩
      have HM5 := Lib.hid hM5
      have HF5 := Lib.hid (HF.out.trans hf5 fun k hk h => by have h : k = b := h; omega)
      clear hM5 hf5 hc0
      try dsimp only
      go_wp2_with fail
      refine ⟨⟨k + 1, by omega, by go_num, ?_, HF5.out⟩, by simp [intOf]; omega⟩
      rw [flat_take xss hlt]
      exact HM5.out
    · have e : k = xss.length := by omega
      subst e
      have HM' : Hid (IsMac wr mm b key xss.flatten) := Lib.hid (by have := HM.out; rwa [List.take_length] at this)
      have HS := Lib.hid (macsum_any wr mm b key xss.flatten (HT.out.frm' (HF0.out.trans' HF.out)) HM'.out (by omega))
      have hs := HS.out
      rw [← HMT.out] at hs
      have HSS := Lib.hid hs
      clear HM HS hs
      go_wp2_with fail
      refine HSS.out.mono ?_
      rintro _ w6 ⟨rfl, hf6⟩
      obtain ⟨wz, hrun, hz, hfz⟩ := run_storeRow (P := Tryd.prog) (HR0.out.frm' (HF.out.trans' hf6)) (cs := arr 32 (shaAt mt)) (by rw [arr_size, arr_size]) (one_arr fun i _ => rfl)
      have HZ := Lib.hid hz
      have HFZ : Hid (Frm noB w wz) := Lib.hid ((HF0.out.trans' (HF.out.trans' hf6)).trans hfz fun k hk h => by have h : k = w.heap.size := h; omega)
      have HRUN := Lib.hid hrun
      clear hz hfz hf6 hrun
      try dsimp only
      go_wp2_with (refine wpList_storeRow rfl _ _ _ rfl rfl w.heap.size rfl _ rfl (size_arr _ _) HRUN.out ?_)
      exact bodyPost_ret (v := .agg (arr 32 (shaAt mt))) (results_cell_row rfl _ _ w.heap.size 26 _ (0, 0) _ rfl HZ.out Tryd.underlying26 rfl (by rw [arr_size]; kernel_rfl)) rfl ⟨rfl, HFZ.out⟩

theorem dersum_n (w : World) (A B : Option Addr) (key : List UInt8) (xss : List (List UInt8)) (n m cap c : Nat) (t : List UInt8) {N : Nat → Prop} (hn0 : key.length = n) (hm0 : xss.length = m) (ht : xss.flatten = t) (hT : TabOk w) (hx : Rd w A (key.map bv)) (hc : n ≤ cap) (hl : n ≤ 1000000000) (hr : RdRows w B xss N) (hf : t.length ≤ 1000000000) (hn : m ≤ 1000000000) :
    Calls Tryd.prog 41 #[.slice A n cap, .slice B m c] w fun e w' => e = .returned (.agg (arr 32 (shaAt (macT key t)))) ∧ Frm noB w w' := by
  subst hn0; subst hm0; subst ht
  exact dersum_any w A B key xss cap c hT hx hc hl hr hf hn

/-- derive.Sum of one list, which has just been laid -/
theorem dersum1 (w : World) (A B : Option Addr) (key t : List UInt8) (n m cap c : Nat) (hn0 : key.length = n) (hm0 : t.length = m) (hT : TabOk w) (hx : Rd w A (key.map bv)) (hc : n ≤ cap) (hl : n ≤ 1000000000) (hr : Rd w B (t.map bv)) (hcc : m ≤ c) (hf : m ≤ 1000000000) :
    Calls Tryd.prog 41 #[.slice A n cap, .slice (some ⟨w.heap.size, 0, none⟩) 1 1] (w.alloc (.cells #[.slice B m c] 29)) fun e w' => e = .returned (.agg (arr 32 (shaAt (macT key t)))) ∧ Frm noB w w' := by
  subst hm0
  have hR : RdRows (w.alloc (.cells #[.slice B t.length c] 29)) (some ⟨w.heap.size, 0, none⟩) [t] (fun k => True ∨ k = w.heap.size) :=
    RdRows.laid [.slice B t.length c] [t] rfl fun i hi hi' => by
      match i, hi with
      | 0, _ => exact ⟨_, _, rfl, hcc, hr, fun _ _ _ => trivial⟩
  have ha : Frm noB w (w.alloc (.cells #[.slice B t.length c] 29)) := (Frm.refl _ _).alloc _
  exact (dersum_n _ A _ key [t] n 1 cap 1 t hn0 rfl (by simp) (hT.frm' ha) (hx.frm' ha) hc hl hR hf (by omega)).mono fun e w' ⟨he, hf⟩ => ⟨he, ha.trans' hf⟩

set_option maxRecDepth 100000 in
set_option maxHeartbeats 1000000 in
theorem extract_any (w : World) (A B : Option Addr) (key t : List UInt8) (cap c : Nat) (hT : TabOk w) (hx : Rd w A (key.map bv)) (hc : key.length ≤ cap) (hl : key.length ≤ 1000000000) (hr : Rd w B (t.map bv)) (hcc : t.length ≤ c) (hf : t.length ≤ 1000000000) :
    Calls Tryd.prog 46 #[.slice A key.length cap, .slice B t.length c] w fun e w' => e = .returned (.agg (arr 32 (shaAt (macT key t)))) ∧ Frm noB w w' := by
  have HC := Lib.hid fun w1 (hf1 : Frm noB w w1) => dersum1 w1 A B key t _ _ cap c rfl rfl (hT.frm' hf1) (hx.frm' hf1) hc hl (hr.frm' hf1) hcc hf
  obtain ⟨mt, hmt⟩ : ∃ mt, mt = macT key t := ⟨_, rfl⟩
  rw [← hmt] at HC ⊢
  clear hT hx hr hmt
  go_enter Tryd.func46, Tryd.ntmps46
  go_upto_region 1 with fail
  have hr0 : Blk (w.alloc (.cells (arr 32 fun _ => bv 0) 26)) w.heap.size 26 (arr 32 fun _ => bv 0) := Blk.new _ _ _
  have hf0 : Frm noB w (w.alloc (.cells (arr 32 fun _ => bv 0) 26)) := (Frm.refl _ _).alloc _
  change Code.wp _ _ _ _ (w.alloc (.cells (arr 32 fun _ => bv 0) 26))
  generalize w.alloc (.cells (arr 32 fun _ => bv 0) 26) = w1 at *
  have HR0 := Lib.hid hr0
  have HF0 := Lib.hid hf0
  clear hr0 hf0
  go_wp2_with fail
  refine (HC.out w1 HF0.out).mono ?_
  rintro _ w9 ⟨rfl, hf⟩
  obtain ⟨wy, hrun, hy, hfy⟩ := run_storeRow (P := Tryd.prog) (HR0.out.frm' hf) (cs := arr 32 (shaAt mt)) (by rw [arr_size, arr_size]) (one_arr fun i _ => rfl)
  have HY := Lib.hid hy
  have HFY : Hid (Frm noB w wy) := Lib.hid ((HF0.out.trans' hf).trans hfy fun k hk h => by have h : k = w.heap.size := h; omega)
  have HRUN2 := Lib.hid hrun
  clear hy hfy hf hrun
  try dsimp only
  go_wp2_with (refine wpList_storeRow rfl _ _ _ rfl rfl w.heap.size rfl _ rfl (size_arr _ _) HRUN2.out ?_)
  exact bodyPost_ret (v := .agg (arr 32 (shaAt mt))) (results_cell_row rfl _ _ w.heap.size 26 _ (0, 0) _ rfl HY.out Tryd.underlying26 rfl (by rw [arr_size]; kernel_rfl)) rfl ⟨rfl, HFY.out⟩

/-- what the difference of two lists is, up to k -/
def difL (a b : List UInt8) : Nat → UInt8
  | 0 => 0
  | k + 1 => difL a b k ||| (a.getD k 0 ^^^ b.getD k 0)
theorem u8_or0 (x y : UInt8) : x ||| y = 0 ↔ x = 0 ∧ y = 0 := by
  constructor
  · intro h
    have h1 : x.toNat ||| y.toNat = 0 := by rw [← UInt8.toNat_or, h]; rfl
    have := Nat.or_eq_zero_iff.1 h1
    exact ⟨UInt8.toNat_inj.1 this.1, UInt8.toNat_inj.1 this.2⟩
  · rintro ⟨rfl, rfl⟩; rfl
theorem u8_xor0 (x y : UInt8) : x ^^^ y = 0 ↔ x = y := by
  constructor
  · intro h
    have : x = (x ^^^ y) ^^^ y := by rw [UInt8.xor_assoc, UInt8.xor_self, UInt8.xor_zero]
    rw [this, h, UInt8.zero_xor]
  · rintro rfl; exact UInt8.xor_self
theorem difL_zero (a b : List UInt8) : ∀ k, difL a b k = 0 ↔ ∀ i, i < k → a.getD i 0 = b.getD i 0
  | 0 => ⟨fun _ i h => absurd h (by omega), fun _ => rfl⟩
  | k + 1 => by
    simp only [difL, u8_or0, u8_xor0, difL_zero a b k]
    constructor
    · rintro ⟨h1, h2⟩ i hi
      by_cases e : i = k
      · subst e; exact h2
      · exact h1 i (by omega)
    · intro h
      exact ⟨fun i hi => h i (by omega), h k (by omega)⟩
theorem difL_eq {a b : List UInt8} (h : a.length = 32) (h' : b.length = 32) : difL a b 32 = 0 ↔ a = b := by
  rw [difL_zero]
  constructor
  · intro hh
    apply List.ext_getElem (by omega)
    intro i h1 h2
    have := hh i (by omega)
    simpa [List.getD, h1, h2] using this
  · rintro rfl i _; rfl
theorem bv_or (x c : UInt8) : bits .or .u8 (x.toNat : Int) (c.toNat : Int) = ((x ||| c).toNat : Int) := by
  rw [u8_or_nat _ _ x.toNat_lt c.toNat_lt, UInt8.toNat_or]

/-- a code of 32 bytes as a value's cells -/
def codeF (cb : List UInt8) : Nat → Value := fun i => bv (cb.getD i 0)
set_option maxRecDepth 100000 in
set_option maxHeartbeats 2000000 in
theorem check_any (w : World) (A B : Option Addr) (key : List UInt8) (xss : List (List UInt8)) (cb : List UInt8) (cap c : Nat) {N : Nat → Prop} (hcb : cb.length = 32) (hT : TabOk w) (hx : Rd w A (key.map bv)) (hc : key.length ≤ cap) (hl : key.length ≤ 1000000000) (hr : RdRows w B xss N) (hf : xss.flatten.length ≤ 1000000000) (hn : xss.length ≤ 1000000000) :
    Calls Tryd.prog 45 #[.slice A key.length cap, .agg (arr 32 (codeF cb)), .slice B xss.length c] w fun e w' => e = .returned (.bool (decide (hmac key xss.flatten = cb))) ∧ Frm noB w w' := by
  obtain ⟨mt, hmt⟩ : ∃ mt, mt = macT key xss.flatten := ⟨_, rfl⟩
  have HMT := Lib.hid hmt
  have HC := Lib.hid fun w1 (hf1 : Frm noB w w1) => dersum_any w1 A B key xss cap c (hT.frm' hf1) (hx.frm' hf1) hc hl (hr.frm' hf1) hf hn
  unfold hmac
  rw [← hmt] at HC ⊢
  have HCB := Lib.hid hcb
  have hb0 := Blk.new w 26 (arr 32 (codeF cb))
  have hf0 : Frm noB w (w.alloc (.cells (arr 32 (codeF cb)) 26)) := (Frm.refl _ _).alloc _
  clear hT hx hr hmt hcb
  go_enter Tryd.func45, Tryd.ntmps45
  go_upto_region 1 with fail
  generalize w.alloc (.cells (arr 32 (codeF cb)) 26) = w1 at *
  have HB0 := Lib.hid hb0
  have HF0 := Lib.hid hf0
  clear hb0 hf0
  go_wp2_with fail
  refine (HC.out w1 HF0.out).mono ?_
  rintro _ w3 ⟨rfl, hf⟩
  obtain ⟨wz, hrun, hz', hfz⟩ := run_storeRow (P := Tryd.prog) (w := w3.alloc (.cells #[.int .u8 0, .int .u8 0, .int .u8 0, .int .u8 0, .int .u8 0, .int .u8 0, .int .u8 0, .int .u8 0, .int .u8 0, .int .u8 0, .int .u8 0, .int .u8 0, .int .u8 0, .int .u8 0, .int .u8 0, .int .u8 0, .int .u8 0, .int .u8 0, .int .u8 0, .int .u8 0, .int .u8 0, .int .u8 0, .int .u8 0, .int .u8 0, .int .u8 0, .int .u8 0, .int .u8 0, .int .u8 0, .int .u8 0, .int .u8 0, .int .u8 0, .int .u8 0] 26)) (Blk.new _ _ _) (cs := arr 32 (shaAt mt)) (by rw [arr_size]; rfl) (one_arr fun i _ => rfl)
  have HZ := Lib.hid hz'
  have hfz1 : Frm noB w1 wz := hf.trans' (((Frm.refl noB w3).alloc (.cells #[.int .u8 0, .int .u8 0, .int .u8 0, .int .u8 0, .int .u8 0, .int .u8 0, .int .u8 0, .int .u8 0, .int .u8 0, .int .u8 0, .int .u8 0, .int .u8 0, .int .u8 0, .int .u8 0, .int .u8 0, .int .u8 0, .int .u8 0, .int .u8 0, .int .u8 0, .int .u8 0, .int .u8 0, .int .u8 0, .int .u8 0, .int .u8 0, .int .u8 0, .int .u8 0, .int .u8 0, .int .u8 0, .int .u8 0, .int .u8 0, .int .u8 0, .int .u8 0] 26)).trans hfz fun k hk h => by have h : k = w3.heap.size := h; omega)
  have HBZ := Lib.hid (HB0.out.frm' hfz1)
  have HFZ := Lib.hid (HF0.out.trans' hfz1)
  have HRUN := Lib.hid hrun
  clear hf hz' hfz hrun hfz1
  try dsimp only
  go_wp2_with (refine wpList_storeRow rfl _ _ _ rfl rfl w3.heap.size rfl _ rfl (size_arr _ _) HRUN.out ?_)
  go_loopw [8, 13] (fun d i wr => ∃ k n : Nat, k ≤ 32 ∧ i = .int .i64 k ∧ d = .int .u8 ((difL (sha mt) cb k).toNat : Int) ∧ wr = wz.drewN n) (fun _ i _ => 32 - (intOf i).toNat)
  case atStart => exact ⟨0, 0, Nat.zero_le _, rfl, rfl, rfl⟩
  case round =>
    obtain ⟨k, n, hk, rfl, rfl, hw0⟩ := hrel
    have HWr := Lib.hid hw0
    have HBr : Hid (Blk wr w.heap.size 26 (arr 32 (codeF cb))) := Lib.hid (hw0 ▸ HBZ.out.drewN n)
    have HZr : Hid (Blk wr w3.heap.size 26 (arr 32 (shaAt mt))) := Lib.hid (hw0 ▸ HZ.out.drewN n)
    clear hw0
    by_cases hlt : k < 32
    · have c0 : wr.cell? ⟨w.heap.size, k, none⟩ = some (.int .u8 ((cb.getD k 0).toNat : Int)) := HBr.out.at_ hlt
      have c1 : wr.cell? ⟨w3.heap.size, k, none⟩ = some (.int .u8 (((sha mt).getD k 0).toNat : Int)) := HZr.out.at_ hlt
      have HD : Hid (difL (sha mt) cb (k + 1) = difL (sha mt) cb k ||| ((sha mt).getD k 0 ^^^ cb.getD k 0)) := Lib.hid rfl
      have hx1 := bv_xor ((sha mt).getD k 0) (cb.getD k 0)
      have hx2 := bv_or (difL (sha mt) cb k) ((sha mt).getD k 0 ^^^ cb.getD k 0)
      generalize (sha mt).getD k 0 = x at *
      generalize cb.getD k 0 = y at *
      generalize difL (sha mt) cb k = dk at *
      generalize hxy : x ^^^ y = xy at *
      generalize hxo : dk ||| xy = xo at *
      have HXO := Lib.hid hxo
      clear hxy hxo
      have q0 : (0 : Int) ≤ (k : Int) := Int.natCast_nonneg _
      have q3 : (k : Int) < 32 := by omega
      go_wp2_with fail
      go_quiet (fail)
      go_wp2_with fail
      exact ⟨⟨k + 1, n + nq, by omega, by go_num, by rw [HD.out], by rw [HWr.out]; simp⟩, by simp [intOf]; omega⟩
    · have e : k = 32 := by omega
      subst e
      have hd := difL_eq (sha_length mt) HCB.out
      have hF : Frm noB w wr := by have := HFZ.out.drewN n; rwa [← HWr.out] at this
      have HF := Lib.hid hF
      by_cases he : sha mt = cb
      · have h0 := hd.2 he
        rw [h0]
        have HE := Lib.hid he
        clear h0 hd he hF
        go_wp2_with fail
        go_ret
        exact ⟨ret_bool (by simp [HE.out]), HF.out⟩
      · have h0 : ¬ difL (sha mt) cb 32 = 0 := fun h => he (hd.1 h)
        have h1 : (((difL (sha mt) cb 32).toNat : Int) == 0) = false := by
          have : (difL (sha mt) cb 32).toNat ≠ 0 := fun h => h0 (UInt8.toNat_inj.1 h)
          simp; omega
        have HE := Lib.hid he
        generalize difL (sha mt) cb 32 = dd at *
        clear h0 hd he hF
        go_wp2_with fail
        go_ret
        exact ⟨ret_bool (by simp [HE.out]), HF.out⟩
end Go.Proofs.YtkhakddecmgejaaDoor
