/-
  derive: Expand, Derive; trystref04: Expand, Drawn, of any number.
-/
import Derived.Test.YtkhakddecmgejaaDoorMac3
import Derived.Test.YtkhakddecmgejaaDoorExpRef
import Derived.Test.YtkhakddecmgejaaDoorLawFrames
namespace Go.Proofs.YtkhakddecmgejaaDoor
open Go.RowKit
set_option linter.unusedVariables false
set_option linter.unusedSimpArgs false

/-- what Expand answers, of any number -/
def expW (pk info : List UInt8) (n : Int) : List UInt8 := if wrongI n 8160 = 0 then expL pk info n.toNat else []
theorem expW_nat (pk info : List UInt8) {n : Nat} (h : n ≤ 8160) : expW pk info n = expL pk info n := by
  unfold expW
  rw [if_pos (by unfold wrongI; rw [if_neg (by omega), if_neg (by omega)])]
  rfl
theorem wrong_nat {n : Nat} (h : n ≤ 8160) : wrongI n 8160 = 0 := by unfold wrongI; rw [if_neg (by omega), if_neg (by omega)]
theorem expW_bad (pk info : List UInt8) {n : Int} (h : wrongI n 8160 ≠ 0) : expW pk info n = [] := if_neg h
theorem good_nat {n : Int} (h : wrongI n 8160 = 0) : ∃ m : Nat, n = m ∧ m ≤ 8160 := by
  unfold wrongI at h
  split at h
  · simp at h
  · split at h
    · simp at h
    · exact ⟨n.toNat, by omega, by omega⟩
theorem expW_le (pk info : List UInt8) (n : Int) : (expW pk info n).length ≤ 8160 := by
  unfold expW
  split
  · rename_i h
    obtain ⟨m, rfl, hm⟩ := good_nat h
    rw [expL_length]; simpa using hm
  · simp

/-- what is answered of it -/
def Drawn (w : World) (xs : List UInt8) (f : Value → Ending) (e : Ending) (w' : World) : Prop :=
  ∃ A' c', e = f (.slice A' xs.length c') ∧ w'.ownsRow w.heap.size 5 1 (.slice A' xs.length c') xs.length (xs.map bv) ∧ Frm noB w w'

theorem rexp_any (w : World) (mp : List UInt8) (B : Option Addr) (info : List UInt8) (cb : Nat) (n : Int) (hb : Rd w B (info.map bv)) (hl : info.length ≤ 900000000) :
    Calls Tryd.prog 51 #[.agg (arr 32 (shaAt mp)), .slice B info.length cb, .int .i64 n] w (Drawn w (expW (sha mp) info n) fun v => .returned v) := by
  by_cases h : wrongI n 8160 = 0
  · obtain ⟨m, rfl, hm⟩ := good_nat h
    rw [expW_nat _ _ hm]
    refine (rexpand_any w mp B info cb m hm hb hl).mono fun e w' ⟨A', c', he, ho, hf⟩ => ?_
    unfold Drawn
    rw [expL_length]
    exact ⟨A', c', he, ho, hf⟩
  · rw [expW_bad _ _ h]
    refine (rexpand_bad w mp B info cb n h).mono fun e w' ⟨he, hf⟩ => ?_
    exact ⟨none, 0, he, World.ownsRow_nil _ _ _ _, hf⟩

/-- derive.Sum of three lists, of which the last is one byte, which have just been laid -/
theorem dersum3 (w : World) (K A B : Option Addr) (key xs ys : List UInt8) (z : UInt8) (zi : Int) (hz : (z.toNat : Int) = zi) (kn n m kc c d : Nat) (hkn : key.length = kn) (hn : xs.length = n) (hm : ys.length = m) (hT : TabOk w) (hk : Rd w K (key.map bv)) (hx : Rd w A (xs.map bv)) (hy : Rd w B (ys.map bv)) (hkc : kn ≤ kc) (hc : n ≤ c) (hd : m ≤ d) (hl : kn ≤ 1000000000) (hl2 : n + m + 1 ≤ 1000000000) (t : List UInt8) (ht : xs ++ ys ++ [z] = t) :
    Calls Tryd.prog 41 #[.slice K kn kc, .slice (some ⟨w.heap.size + 1, 0, none⟩) 3 3] ((w.alloc (.cells #[.int .u8 zi] 5)).alloc (.cells #[.slice A n c, .slice B m d, .slice (some ⟨w.heap.size, 0, none⟩) 1 1] 29)) fun e w' => e = .returned (.agg (arr 32 (shaAt (macT key t)))) ∧ Frm noB w w' := by
  subst hkn; subst hn; subst hm; subst ht; subst hz
  have h1 : Frm noB w (w.alloc (.cells #[.int .u8 (z.toNat : Int)] 5)) := (Frm.refl _ _).alloc _
  have hz1 : Rd (w.alloc (.cells #[.int .u8 (z.toNat : Int)] 5)) (some ⟨w.heap.size, 0, none⟩) (([z] : List UInt8).map bv) := rd_laid w [z] (0, 0)
  have hs : (w.alloc (.cells #[.int .u8 (z.toNat : Int)] 5)).heap.size = w.heap.size + 1 := by simp
  generalize w.alloc (.cells #[.int .u8 (z.toNat : Int)] 5) = w1 at *
  rw [← hs]
  have hR : RdRows (w1.alloc (.cells #[.slice A xs.length c, .slice B ys.length d, .slice (some ⟨w.heap.size, 0, none⟩) 1 1] 29)) (some ⟨w1.heap.size, 0, none⟩) [xs, ys, [z]] (fun k => True ∨ k = w1.heap.size) :=
    RdRows.laid [.slice A xs.length c, .slice B ys.length d, .slice (some ⟨w.heap.size, 0, none⟩) 1 1] [xs, ys, [z]] rfl fun i hi hi' => by
      match i, hi with
      | 0, _ => exact ⟨_, _, rfl, hc, hx.frm' h1, fun _ _ _ => trivial⟩
      | 1, _ => exact ⟨_, _, rfl, hd, hy.frm' h1, fun _ _ _ => trivial⟩
      | 2, _ => exact ⟨_, _, rfl, Nat.le_refl _, hz1, fun _ _ _ => trivial⟩
  have ha : Frm noB w (w1.alloc (.cells #[.slice A xs.length c, .slice B ys.length d, .slice (some ⟨w.heap.size, 0, none⟩) 1 1] 29)) := h1.alloc _
  have hfl : ([xs, ys, [z]] : List (List UInt8)).flatten = xs ++ ys ++ [z] := by simp
  exact (dersum_n _ K _ key [xs, ys, [z]] _ 3 kc 3 _ rfl rfl hfl (hT.frm' ha) (hk.frm' ha) hkc hl hR (by simp; omega) (by omega)).mono fun e w' ⟨he, hf⟩ => ⟨he, ha.trans' hf⟩

set_option maxRecDepth 100000 in
set_option maxHeartbeats 2000000 in
theorem dexpand_any (w : World) (mp : List UInt8) (B : Option Addr) (info : List UInt8) (cb : Nat) (n : Nat) (hT : TabOk w) (hn : n ≤ 8160) (hb : Rd w B (info.map bv)) (hcb : info.length ≤ cb) (hl : info.length ≤ 900000000) :
    Calls Tryd.prog 52 #[.agg (arr 32 (shaAt mp)), .slice B info.length cb, .int .i64 n] w (Drawn w (expL (sha mp) info n) fun v => .returned (.tuple #[v, .int .i64 0])) := by
  have hbp := Blk.new w 26 (arr 32 (shaAt mp))
  have hf0 : Frm noB w (w.alloc (.cells (arr 32 (shaAt mp)) 26)) := (Frm.refl _ _).alloc _
  obtain ⟨pk, hpk⟩ : ∃ pk, pk = sha mp := ⟨_, rfl⟩
  have HPK := Lib.hid hpk
  have HPL : Hid (pk.length = 32) := Lib.hid (by rw [hpk]; exact sha_length _)
  rw [← hpk]
  have HB := Lib.hid hb
  have HT := Lib.hid hT
  clear hpk hb hT
  go_enter Tryd.func52, Tryd.ntmps52
  go_upto_region 1 with fail
  generalize w.alloc (.cells (arr 32 (shaAt mp)) 26) = w1 at *
  have HBP := Lib.hid hbp
  have HF0 := Lib.hid hf0
  have hs1 : w.heap.size < w1.heap.size := hbp.lt
  clear hbp hf0
  go_wp2_with (at_make; refine mk0 info29 rfl _ _ rfl w1.heap.size (n + 32) rfl rfl (by go_num) (by omega) (by omega) (Nat.le_refl _) ?_; intro w2 hown2 hf2; have HO2 := Lib.hid hown2; have HF2 := Lib.hid hf2; clear hown2 hf2)
  go_loopw [8, 9, 10] (fun vo vt i wr => ∃ (k : Nat) (At : Option Addr) (ct : Nat), k ≤ pcs n ∧ i = .int .u8 (((k : Int) + 1) % 256) ∧ wr.ownsRow w1.heap.size 5 1 vo (32 * k) ((oCh pk info k).map bv) ∧ vt = .slice At (tCh pk info k).length ct ∧ (tCh pk info k).length ≤ ct ∧ Rd wr At ((tCh pk info k).map bv) ∧ (∀ q, aB At q → ¬ oB vo q) ∧ Frm noB w1 wr) (fun vo _ _ _ => n - lenV vo)
  case atStart => exact ⟨0, none, 0, Nat.zero_le _, rfl, HO2.out, rfl, Nat.le_refl _, Rd.nil _ _, (fun q h => by obtain ⟨a, h, _⟩ := h; cases h), HF2.out⟩
  case round =>
    clear HO2 HF2
    obtain ⟨k, At, ct, hk, rfl, ho, rfl, hct, ht, hne, hF⟩ := hrel
    obtain ⟨Ao, co, rfl, hco⟩ := own_slice ho
    have HO := Lib.hid ho
    have HTT := Lib.hid ht
    have HNE := Lib.hid hne
    have HF := Lib.hid hF
    have hsz := hF.size
    have htl := tCh_le pk info k
    clear ho ht hne hF
    by_cases hlt : 32 * k < n
    · have hk254 : k ≤ 254 := by omega
      have hmod : ((k : Int) + 1) % 256 = k + 1 := by omega
      generalize htk : (tCh pk info k).length = tl at *
      have HTK := Lib.hid htk
      clear htk
      obtain ⟨mt, hmt⟩ : ∃ mt, mt = macT pk (tCh pk info k ++ info ++ [UInt8.ofNat (k + 1)]) := ⟨_, rfl⟩
      have hsm : sha mt = tCh pk info (k + 1) := by rw [hmt]; rfl
      have HSM := Lib.hid hsm
      have HMT := Lib.hid hmt.symm
      have hbk : ((UInt8.ofNat (k + 1)).toNat : Int) = (k : Int) + 1 := by
        rw [UInt8.toNat_ofNat']
        omega
      have HBK := Lib.hid hbk
      clear hsm hmt hbk
      go_wp2_with fail
      have hS := dersum3 wr (some ⟨w.heap.size, 0, none⟩) At B pk (tCh pk info k) info (UInt8.ofNat (k + 1)) ((k : Int) + 1) HBK.out 32 tl info.length 32 ct cb HPL.out HTK.out rfl (HT.out.frm' (HF0.out.trans' HF.out)) (by rw [HPK.out]; exact (HBP.out.frm' HF.out).hashRd) HTT.out (HB.out.frm' (HF0.out.trans' HF.out)) (by omega) hct hcb (by omega) (by omega) _ rfl
      rw [HMT.out] at hS
      refine hS.mono ?_
      rintro _ w5 ⟨rfl, hf⟩
      obtain ⟨wz, hrun, hz, hfz⟩ := run_storeRow (P := Tryd.prog) (w := w5.alloc (.cells #[.int .u8 0, .int .u8 0, .int .u8 0, .int .u8 0, .int .u8 0, .int .u8 0, .int .u8 0, .int .u8 0, .int .u8 0, .int .u8 0, .int .u8 0, .int .u8 0, .int .u8 0, .int .u8 0, .int .u8 0, .int .u8 0, .int .u8 0, .int .u8 0, .int .u8 0, .int .u8 0, .int .u8 0, .int .u8 0, .int .u8 0, .int .u8 0, .int .u8 0, .int .u8 0, .int .u8 0, .int .u8 0, .int .u8 0, .int .u8 0, .int .u8 0, .int .u8 0] 26)) (Blk.new _ _ _) (cs := arr 32 (shaAt mt)) (by rw [arr_size]; rfl) (one_arr fun i _ => rfl)
      have hzr := hz.hashRd
      rw [HSM.out] at hzr
      have HZR := Lib.hid hzr
      have HFZ : Hid (Frm noB wr wz) := Lib.hid (hf.trans' (((Frm.refl noB w5).alloc (.cells #[.int .u8 0, .int .u8 0, .int .u8 0, .int .u8 0, .int .u8 0, .int .u8 0, .int .u8 0, .int .u8 0, .int .u8 0, .int .u8 0, .int .u8 0, .int .u8 0, .int .u8 0, .int .u8 0, .int .u8 0, .int .u8 0, .int .u8 0, .int .u8 0, .int .u8 0, .int .u8 0, .int .u8 0, .int .u8 0, .int .u8 0, .int .u8 0, .int .u8 0, .int .u8 0, .int .u8 0, .int .u8 0, .int .u8 0, .int .u8 0, .int .u8 0, .int .u8 0] 26)).trans hfz fun k hk h => by have h : k = w5.heap.size := h; omega))
      have HRUN := Lib.hid hrun
      have h5 := hf.size
      clear hf hz hfz hrun hS hzr
      try dsimp only
      go_wp2_with (first | (refine wpList_storeRow rfl _ _ _ rfl rfl w5.heap.size rfl _ rfl (size_arr _ _) HRUN.out ?_) | (at_builtin; refine appN info29 rfl w1.heap.size (own_frm' HO.out HFZ.out) (.tmp 33) (.tmp 34) rfl rfl rfl (by rw [List.length_map, tCh_length]) HZR.out (bv_one _) (32 * (k + 1)) (by omega) ((oCh pk info (k + 1)).map bv) (by rw [← List.map_append]; rfl) (by omega) (by omega) (by have := HFZ.out.size; omega) ?_; intro A8 c8 w8 ho8 hc8 hf8 hv8; have HO8 := Lib.hid ho8; have HF8 := Lib.hid hf8; have HV8 := Lib.hid hv8; clear ho8 hf8 hv8 hc8))
      have hvo : ∀ q, oB (.slice Ao (32 * k) co) q → w1.heap.size ≤ q ∧ q < wr.heap.size := fun q hq => own_lt HO.out q hq
      refine ⟨⟨k + 1, _, _, by unfold pcs; omega, by go_num, HO8.out, (by rw [tCh_length]), (by rw [tCh_length]; omega), HZR.out.frmN HF8.out fun _ q hq h => ?_, fun q hq h => ?_, HF.out.trans ((HFZ.out.any (S := oB (.slice Ao (32 * k) co))).trans' HF8.out) fun q hq h => by have := hvo q h; omega⟩, by simp [lenV]; omega⟩
      · obtain ⟨a, ha, hq⟩ := hq
        cases ha
        have hq : w5.heap.size = q := hq
        have := hvo q h
        omega
      · obtain ⟨a, ha, hq⟩ := hq
        cases ha
        have hq : w5.heap.size = q := hq
        rcases HV8.out q h with h | h
        · have := hvo q h; omega
        · have := HZR.out.lt (by rw [List.length_map, tCh_length]; omega) q ⟨_, rfl, hq⟩
          omega
    · have hk2 : k = pcs n := by unfold pcs at hk ⊢; omega
      have HR : Hid (wr.ownsRow w.heap.size 5 1 (.slice Ao n co) n ((expL pk info n).map bv)) := Lib.hid (by
        have h := own_take HO.out (n := n) (by omega)
        rw [← List.map_take, hk2] at h
        exact own_base h fun q hq => by have := (own_lt h q hq).1; omega)
      have hnk : n ≤ 32 * k := by omega
      have hnc : n ≤ co := by omega
      have HXL := Lib.hid (expL_length pk info n)
      clear HO HTT HNE hk2
      go_wp2_with fail
      go_ret2
      unfold Drawn
      rw [HXL.out]
      exact ⟨_, _, rfl, HR.out, HF0.out.trans' HF.out⟩

set_option maxRecDepth 100000 in
theorem dexpand_bad (w : World) (mp : List UInt8) (B : Option Addr) (len cb : Nat) (n : Int) (h : wrongI n 8160 ≠ 0) :
    Calls Tryd.prog 52 #[.agg (arr 32 (shaAt mp)), .slice B len cb, .int .i64 n] w fun e w' => e = .returned (.tuple #[.slice none 0 0, .int .i64 (wrongI n 8160)]) ∧ Frm noB w w' := by
  have hf0 : Frm noB w (w.alloc (.cells (arr 32 (shaAt mp)) 26)) := (Frm.refl _ _).alloc _
  by_cases h1 : n < 0
  · have h2 : wrongI n 8160 = 2 := if_pos h1
    rw [h2]
    clear h h2
    go_enter Tryd.func52, Tryd.ntmps52
    go_wp2_with fail
    go_ret2
    exact ⟨rfl, hf0⟩
  · by_cases h3 : 8160 < n
    · have h2 : wrongI n 8160 = 3 := by unfold wrongI; rw [if_neg h1, if_pos h3]
      rw [h2]
      clear h h2
      go_enter Tryd.func52, Tryd.ntmps52
      go_wp2_with fail
      go_ret2
      exact ⟨rfl, hf0⟩
    · exact absurd (by unfold wrongI; rw [if_neg h1, if_neg h3]) h
theorem dexp_any (w : World) (mp : List UInt8) (B : Option Addr) (info : List UInt8) (cb : Nat) (n : Int) (hT : TabOk w) (hb : Rd w B (info.map bv)) (hcb : info.length ≤ cb) (hl : info.length ≤ 900000000) :
    Calls Tryd.prog 52 #[.agg (arr 32 (shaAt mp)), .slice B info.length cb, .int .i64 n] w (Drawn w (expW (sha mp) info n) fun v => .returned (.tuple #[v, .int .i64 (wrongI n 8160)])) := by
  by_cases h : wrongI n 8160 = 0
  · obtain ⟨m, rfl, hm⟩ := good_nat h
    rw [expW_nat _ _ hm, wrong_nat hm]
    exact dexpand_any w mp B info cb m hT hm hb hcb hl
  · rw [expW_bad _ _ h]
    refine (dexpand_bad w mp B info.length cb n h).mono fun e w' ⟨he, hf⟩ => ?_
    exact ⟨none, 0, he, World.ownsRow_nil _ _ _ _, hf⟩

/-- Derive: Expand of Extract -/
theorem derive_any (w : World) (A B C : Option Addr) (salt secret info : List UInt8) (ca cb cc : Nat) (n : Int) (mp : List UInt8) (hmp : macT salt secret = mp) (hT : TabOk w) (hx : Rd w A (salt.map bv)) (hy : Rd w B (secret.map bv)) (hz : Rd w C (info.map bv)) (hca : salt.length ≤ ca) (hcb : secret.length ≤ cb) (hcc : info.length ≤ cc) (h1 : salt.length ≤ 900000000) (h2 : secret.length ≤ 900000000) (h3 : info.length ≤ 900000000) :
    Calls Tryd.prog 53 #[.slice A salt.length ca, .slice B secret.length cb, .slice C info.length cc, .int .i64 n] w (Drawn w (expW (sha mp) info n) fun v => .returned (.tuple #[v, .int .i64 (wrongI n 8160)])) := by
  have HT := Lib.hid hT
  have HX := Lib.hid hx
  have HY := Lib.hid hy
  have HZ := Lib.hid hz
  have HMP := Lib.hid hmp
  clear hT hx hy hz hmp
  go_enter Tryd.func53, Tryd.ntmps53
  go_wp2_with fail
  have hS := extract_any w A B salt secret ca cb HT.out HX.out hca (by omega) HY.out hcb (by omega)
  rw [HMP.out] at hS
  refine hS.mono ?_
  rintro _ w1 ⟨rfl, hf⟩
  have HF1 := Lib.hid hf
  clear hS hf
  try dsimp only
  go_wp2_with fail
  refine (dexp_any w1 mp C info cc n (HT.out.frm' HF1.out) (HZ.out.frm' HF1.out) hcc h3).mono ?_
  rintro _ w2 ⟨A2, c2, rfl, ho, hf⟩
  have HO := Lib.hid ho
  have HF2 := Lib.hid (HF1.out.trans' hf)
  have hs := HF1.out.size
  clear ho hf
  try dsimp only
  go_wp2_with fail
  go_ret2
  exact ⟨_, _, rfl, own_base HO.out fun q hq => by have := (own_lt HO.out q hq).1; omega, HF2.out⟩
theorem drawn_any (w : World) (A B C : Option Addr) (salt secret info : List UInt8) (ca cb cc : Nat) (n : Int) (mp : List UInt8) (hmp : macT salt secret = mp) (hx : Rd w A (salt.map bv)) (hy : Rd w B (secret.map bv)) (hz : Rd w C (info.map bv)) (h1 : salt.length ≤ 900000000) (h2 : secret.length ≤ 900000000) (h3 : info.length ≤ 900000000) :
    Calls Tryd.prog 69 #[.slice A salt.length ca, .slice B secret.length cb, .slice C info.length cc, .int .i64 n] w (Drawn w (expW (sha mp) info n) fun v => .returned v) := by
  have HX := Lib.hid hx
  have HY := Lib.hid hy
  have HZ := Lib.hid hz
  have HMP := Lib.hid hmp
  clear hx hy hz hmp
  go_enter Tryd.func69, Tryd.ntmps69
  go_wp2_with fail
  have hS := rextract_any w A B salt secret ca cb HX.out HY.out (by unfold JLen; omega) (by omega)
  rw [HMP.out] at hS
  refine hS.mono ?_
  rintro _ w1 ⟨rfl, hf⟩
  have HF1 := Lib.hid hf
  clear hS hf
  try dsimp only
  go_wp2_with fail
  refine (rexp_any w1 mp C info cc n (HZ.out.frm' HF1.out) h3).mono ?_
  rintro _ w2 ⟨A2, c2, rfl, ho, hf⟩
  have HO := Lib.hid ho
  have HF2 := Lib.hid (HF1.out.trans' hf)
  have hs := HF1.out.size
  clear ho hf
  try dsimp only
  go_wp2_with fail
  go_ret
  exact ⟨_, _, rfl, own_base HO.out fun q hq => by have := (own_lt HO.out q hq).1; omega, HF2.out⟩
end Go.Proofs.YtkhakddecmgejaaDoor
