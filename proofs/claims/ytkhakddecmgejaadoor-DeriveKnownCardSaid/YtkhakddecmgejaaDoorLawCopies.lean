/-
  trystlaw03.DigestCopies: the walk. (Printed by copies.py.)
-/
import Derived.Test.YtkhakddecmgejaaDoorJoin
namespace Go.Proofs.YtkhakddecmgejaaDoor
open Go.RowKit
set_option linter.unusedVariables false
set_option linter.unusedSimpArgs false

/-- Two, its answer under a name -/
theorem two_t (w : World) (A B : Option Addr) (a b t : List UInt8) (c d : Nat) (ha : Rd w A (a.map bv)) (hb : Rd w B (b.map bv)) (hc : a.length ≤ c) (hd : b.length ≤ d) (hl : JLen t.length) (ht : a ++ b = t) :
    Calls Tryd.prog 31 #[.slice A a.length c, .slice B b.length d] w fun e w' => ∃ Av cv, e = .returned (.slice Av t.length cv) ∧ t.length ≤ cv ∧ w'.ownsRow w.heap.size 5 1 (.slice Av t.length cv) t.length (t.map bv) ∧ Frm noB w w' := by
  subst ht
  refine (two_any w A B a b c d ha hb hc hd hl).mono fun e w' ⟨v, he, ho, hf⟩ => ?_
  obtain ⟨Av, cv, rfl, hcv⟩ := own_slice ho
  exact ⟨Av, cv, he, hcv, ho, hf⟩
theorem copyBytes_t (A : Option Addr) (xs : List UInt8) (c : Nat) (w : World) (hx : Rd w A (xs.map bv)) (h1 : Len xs.length) :
    Calls Tryd.prog 25 #[.slice A xs.length c] w fun e w' => ∃ Av cv, e = .returned (.slice Av xs.length cv) ∧ xs.length ≤ cv ∧ w'.ownsRow w.heap.size 5 1 (.slice Av xs.length cv) xs.length (xs.map bv) ∧ Frm noB w w' := by
  refine (copyBytes_any A xs c w hx h1).mono fun e w' ⟨v, he, ho, hf⟩ => ?_
  obtain ⟨Av, cv, rfl, hcv⟩ := own_slice ho
  exact ⟨Av, cv, he, hcv, ho, hf⟩
/-- digest.Sum of one list, which has just been laid -/
theorem dsum1 (w : World) (A : Option Addr) (t : List UInt8) (c : Nat) (hT : TabOk w) (hx : Rd w A (t.map bv)) (hc : t.length ≤ c) (hl : HLen t.length) :
    Calls Tryd.prog 18 #[.slice (some ⟨w.heap.size, 0, none⟩) 1 1] (w.alloc (.cells #[.slice A t.length c] 29)) fun e w' => e = .returned (.agg (arr 32 (shaAt t))) ∧ Frm noB w w' := by
  have hR : RdRows (w.alloc (.cells #[.slice A t.length c] 29)) (some ⟨w.heap.size, 0, none⟩) [t] (fun k => True ∨ k = w.heap.size) :=
    RdRows.laid [.slice A t.length c] [t] rfl fun i hi hi' => by
      match i, hi with
      | 0, _ => exact ⟨_, _, rfl, hc, hx, fun _ _ _ => trivial⟩
  have ha : Frm noB w (w.alloc (.cells #[.slice A t.length c] 29)) := (Frm.refl _ _).alloc _
  have hfl : ([t] : List (List UInt8)).flatten = t := by simp
  refine (dsum_any _ (some ⟨w.heap.size, 0, none⟩) [t] 1 (hT.frm' ha) hR (by rw [hfl]; exact hl) (by unfold HLen; simp)).mono fun e w' ⟨he, hf⟩ => ?_
  rw [hfl] at he
  exact ⟨he, ha.trans' hf⟩
theorem own_ab {w : World} {base n c : Nat} {A : Option Addr} {xs : List Value} (h : w.ownsRow base 5 1 (.slice A n c) n xs) : ∀ q, aB A q → base ≤ q ∧ q < w.heap.size := fun q ⟨a, ha, hq⟩ => own_lt h q (by subst ha; subst hq; rfl)

set_option maxRecDepth 100000 in
set_option maxHeartbeats 4000000 in
theorem digestCopies_any (w : World) (Aa Ab Ac : Option Addr) (a b c : List UInt8) (ca cb cc : Nat) (hT : TabOk w) (ha : Rd w Aa (a.map bv)) (hb : Rd w Ab (b.map bv)) (hc : Rd w Ac (c.map bv)) (la : a.length ≤ ca) (lb : b.length ≤ cb) (lc : c.length ≤ cc) (hl : a.length + b.length + c.length ≤ 1099511627776) :
    Calls Tryd.prog 7 #[.slice Aa a.length ca, .slice Ab b.length cb, .slice Ac c.length cc] w fun e w' => e = .returned (.bool true) ∧ Frm noB w w' := by
  have HT := Lib.hid hT
  have HRa := Lib.hid ha
  have HRb := Lib.hid hb
  have HRc := Lib.hid hc
  clear hT ha hb hc
  go_enter Tryd.func7, Tryd.ntmps7
  go_wp2_with fail
  refine (new_any w HT.out).mono ?_
  rintro _ w1 ⟨bh, rfl, geh, hI, hf⟩
  have HF : Hid (Frm noB w w1) := Lib.hid hf
  have HIh : Hid (IsH w1 bh []) := Lib.hid hI
  clear hI hf
  try dsimp only
  go_wp2_with fail
  refine (works03 w1 (HT.out.frm' HF.out)).mono ?_
  rintro _ w2 ⟨rfl, hf⟩
  replace HF : Hid (Frm noB w w2) := Lib.hid (HF.out.trans' hf)
  replace HIh : Hid (IsH w2 bh []) := Lib.hid (HIh.out.frm' hf)
  clear hf
  try dsimp only
  go_wp2_with fail
  refine (copyBytes_t Aa a ca w2 (HRa.out.frm' HF.out) (by unfold Len; omega)).mono ?_
  rintro _ w3 ⟨Av, cv, rfl, hcv, ho, hf⟩
  have HO := Lib.hid ho
  have HOB := Lib.hid (own_ab ho)
  have lth := HIh.out.lt
  replace HF : Hid (Frm noB w w3) := Lib.hid (HF.out.trans' hf)
  replace HIh : Hid (IsH w3 bh []) := Lib.hid (HIh.out.frm' hf)
  clear ho hf
  try dsimp only
  go_wp2_with fail
  refine (write_any w3 bh [] Av a cv (HT.out.frm' HF.out) HIh.out (Rd.of_own HO.out) (fun _ q hq h => by have := (HOB.out q hq).1; omega) hcv (by unfold HLen; simp) (by unfold HLen; omega)).mono ?_
  rintro _ w4 ⟨rfl, hI, hf⟩
  replace HF : Hid (Frm noB w w4) := Lib.hid (HF.out.trans hf fun k hk h => by have h : k = bh := h; omega)
  obtain ⟨m1, hm1⟩ : ∃ m1, m1 = [] ++ a := ⟨_, rfl⟩
  rw [← hm1] at hI
  have Lm1 : m1.length ≤ a.length := by rw [hm1]; simp
  have Em1 := Lib.hid hm1
  replace HIh : Hid (IsH w4 bh m1) := Lib.hid hI
  clear hI hf hm1 HO HOB hcv lth
  try dsimp only
  go_wp2_with fail
  have lth := HIh.out.lt
  have hsz := HF.out.size
  refine (copy_any w4 bh m1 HIh.out).mono ?_
  rintro _ w5 ⟨bg, rfl, geg0, hI, hf⟩
  replace HF : Hid (Frm noB w w5) := Lib.hid (HF.out.trans' hf)
  replace HIh : Hid (IsH w5 bh m1) := Lib.hid (HIh.out.frm' hf)
  have HIg : Hid (IsH w5 bg m1) := Lib.hid hI
  have geg : w.heap.size ≤ bg := by omega
  have nehg : bh ≠ bg := by omega
  clear hI hf hsz geg0 lth
  try dsimp only
  go_wp2_with fail
  refine (copyBytes_t Ab b cb w5 (HRb.out.frm' HF.out) (by unfold Len; omega)).mono ?_
  rintro _ w6 ⟨Av, cv, rfl, hcv, ho, hf⟩
  have HO := Lib.hid ho
  have HOB := Lib.hid (own_ab ho)
  have lth := HIh.out.lt
  have ltg := HIg.out.lt
  replace HF : Hid (Frm noB w w6) := Lib.hid (HF.out.trans' hf)
  replace HIh : Hid (IsH w6 bh m1) := Lib.hid (HIh.out.frm' hf)
  replace HIg : Hid (IsH w6 bg m1) := Lib.hid (HIg.out.frm' hf)
  clear ho hf
  try dsimp only
  go_wp2_with fail
  refine (write_any w6 bh m1 Av b cv (HT.out.frm' HF.out) HIh.out (Rd.of_own HO.out) (fun _ q hq h => by have := (HOB.out q hq).1; omega) hcv (by unfold HLen; omega) (by unfold HLen; omega)).mono ?_
  rintro _ w7 ⟨rfl, hI, hf⟩
  replace HIg : Hid (IsH w7 bg m1) := Lib.hid (HIg.out.frm hf (fun h => by have h : bg = bh := h; omega))
  replace HF : Hid (Frm noB w w7) := Lib.hid (HF.out.trans hf fun k hk h => by have h : k = bh := h; omega)
  obtain ⟨m3, hm3⟩ : ∃ m3, m3 = m1 ++ b := ⟨_, rfl⟩
  rw [← hm3] at hI
  have Lm3 : m3.length ≤ a.length + b.length := by rw [hm3, List.length_append]; omega
  have Em3 := Lib.hid hm3
  replace HIh : Hid (IsH w7 bh m3) := Lib.hid hI
  clear hI hf hm3 HO HOB hcv lth ltg
  try dsimp only
  go_wp2_with fail
  refine (copyBytes_t Ac c cc w7 (HRc.out.frm' HF.out) (by unfold Len; omega)).mono ?_
  rintro _ w8 ⟨Av, cv, rfl, hcv, ho, hf⟩
  have HO := Lib.hid ho
  have HOB := Lib.hid (own_ab ho)
  have lth := HIh.out.lt
  have ltg := HIg.out.lt
  replace HF : Hid (Frm noB w w8) := Lib.hid (HF.out.trans' hf)
  replace HIh : Hid (IsH w8 bh m3) := Lib.hid (HIh.out.frm' hf)
  replace HIg : Hid (IsH w8 bg m1) := Lib.hid (HIg.out.frm' hf)
  clear ho hf
  try dsimp only
  go_wp2_with fail
  refine (write_any w8 bg m1 Av c cv (HT.out.frm' HF.out) HIg.out (Rd.of_own HO.out) (fun _ q hq h => by have := (HOB.out q hq).1; omega) hcv (by unfold HLen; omega) (by unfold HLen; omega)).mono ?_
  rintro _ w9 ⟨rfl, hI, hf⟩
  replace HIh : Hid (IsH w9 bh m3) := Lib.hid (HIh.out.frm hf (fun h => by have h : bh = bg := h; omega))
  replace HF : Hid (Frm noB w w9) := Lib.hid (HF.out.trans hf fun k hk h => by have h : k = bg := h; omega)
  obtain ⟨m4, hm4⟩ : ∃ m4, m4 = m1 ++ c := ⟨_, rfl⟩
  rw [← hm4] at hI
  have Lm4 : m4.length ≤ a.length + c.length := by rw [hm4, List.length_append]; omega
  have Em4 := Lib.hid hm4
  replace HIg : Hid (IsH w9 bg m4) := Lib.hid hI
  clear hI hf hm4 HO HOB hcv lth ltg
  try dsimp only
  go_wp2_with fail
  have lth := HIh.out.lt
  have ltg := HIg.out.lt
  have hsz := HF.out.size
  refine (copy_any w9 bg m4 HIg.out).mono ?_
  rintro _ w10 ⟨bk, rfl, gek0, hI, hf⟩
  replace HF : Hid (Frm noB w w10) := Lib.hid (HF.out.trans' hf)
  replace HIh : Hid (IsH w10 bh m3) := Lib.hid (HIh.out.frm' hf)
  replace HIg : Hid (IsH w10 bg m4) := Lib.hid (HIg.out.frm' hf)
  have HIk : Hid (IsH w10 bk m4) := Lib.hid hI
  have gek : w.heap.size ≤ bk := by omega
  have nehk : bh ≠ bk := by omega
  have negk : bg ≠ bk := by omega
  clear hI hf hsz gek0 lth ltg
  try dsimp only
  go_wp2_with fail
  refine (sum_any w10 bh m3 (HT.out.frm' HF.out) HIh.out (by unfold HLen; omega)).mono ?_
  rintro _ w11 ⟨rfl, hf⟩
  replace HF : Hid (Frm noB w w11) := Lib.hid (HF.out.trans' hf)
  replace HIh : Hid (IsH w11 bh m3) := Lib.hid (HIh.out.frm' hf)
  replace HIg : Hid (IsH w11 bg m4) := Lib.hid (HIg.out.frm' hf)
  replace HIk : Hid (IsH w11 bk m4) := Lib.hid (HIk.out.frm' hf)
  clear hf
  try dsimp only
  go_wp2_with fail
  refine (two_t w11 Aa Ab a b m3 ca cb (HRa.out.frm' HF.out) (HRb.out.frm' HF.out) la lb (by unfold JLen; omega) (by rw [Em3.out, Em1.out]; simp)).mono ?_
  rintro _ w12 ⟨Av, cv, rfl, hcv, ho, hf⟩
  have HO := Lib.hid ho
  replace HF : Hid (Frm noB w w12) := Lib.hid (HF.out.trans' hf)
  replace HIh : Hid (IsH w12 bh m3) := Lib.hid (HIh.out.frm' hf)
  replace HIg : Hid (IsH w12 bg m4) := Lib.hid (HIg.out.frm' hf)
  replace HIk : Hid (IsH w12 bk m4) := Lib.hid (HIk.out.frm' hf)
  clear ho hf
  try dsimp only
  go_wp2_with fail
  have heq := fun w => eq_sha' w m3
  refine (dsum1 w12 Av m3 cv (HT.out.frm' HF.out) (Rd.of_own HO.out) hcv (by unfold HLen; omega)).mono ?_
  rintro _ w13 ⟨rfl, hf⟩
  replace HF : Hid (Frm noB w w13) := Lib.hid (HF.out.trans' hf)
  replace HIh : Hid (IsH w13 bh m3) := Lib.hid (HIh.out.frm' hf)
  replace HIg : Hid (IsH w13 bg m4) := Lib.hid (HIg.out.frm' hf)
  replace HIk : Hid (IsH w13 bk m4) := Lib.hid (HIk.out.frm' hf)
  clear hf HO hcv
  try dsimp only
  go_wp2_with fail
  clear heq
  refine (sum_any w13 bg m4 (HT.out.frm' HF.out) HIg.out (by unfold HLen; omega)).mono ?_
  rintro _ w14 ⟨rfl, hf⟩
  replace HF : Hid (Frm noB w w14) := Lib.hid (HF.out.trans' hf)
  replace HIh : Hid (IsH w14 bh m3) := Lib.hid (HIh.out.frm' hf)
  replace HIg : Hid (IsH w14 bg m4) := Lib.hid (HIg.out.frm' hf)
  replace HIk : Hid (IsH w14 bk m4) := Lib.hid (HIk.out.frm' hf)
  clear hf
  try dsimp only
  go_wp2_with fail
  refine (two_t w14 Aa Ac a c m4 ca cc (HRa.out.frm' HF.out) (HRc.out.frm' HF.out) la lc (by unfold JLen; omega) (by rw [Em4.out, Em1.out]; simp)).mono ?_
  rintro _ w15 ⟨Av, cv, rfl, hcv, ho, hf⟩
  have HO := Lib.hid ho
  replace HF : Hid (Frm noB w w15) := Lib.hid (HF.out.trans' hf)
  replace HIh : Hid (IsH w15 bh m3) := Lib.hid (HIh.out.frm' hf)
  replace HIg : Hid (IsH w15 bg m4) := Lib.hid (HIg.out.frm' hf)
  replace HIk : Hid (IsH w15 bk m4) := Lib.hid (HIk.out.frm' hf)
  clear ho hf
  try dsimp only
  go_wp2_with fail
  have heq := fun w => eq_sha' w m4
  refine (dsum1 w15 Av m4 cv (HT.out.frm' HF.out) (Rd.of_own HO.out) hcv (by unfold HLen; omega)).mono ?_
  rintro _ w16 ⟨rfl, hf⟩
  replace HF : Hid (Frm noB w w16) := Lib.hid (HF.out.trans' hf)
  replace HIh : Hid (IsH w16 bh m3) := Lib.hid (HIh.out.frm' hf)
  replace HIg : Hid (IsH w16 bg m4) := Lib.hid (HIg.out.frm' hf)
  replace HIk : Hid (IsH w16 bk m4) := Lib.hid (HIk.out.frm' hf)
  clear hf HO hcv
  try dsimp only
  go_wp2_with fail
  clear heq
  obtain ⟨st, bl, hb, _, h2g⟩ := HIg.out
  refine (reset_any w16 bg st bl _ _ (HT.out.frm' HF.out) hb h2g).mono ?_
  rintro _ w17 ⟨rfl, hI, hf⟩
  replace HIh : Hid (IsH w17 bh m3) := Lib.hid (HIh.out.frm hf (fun h => by have h : bh = bg := h; omega))
  replace HIk : Hid (IsH w17 bk m4) := Lib.hid (HIk.out.frm hf (fun h => by have h : bk = bg := h; omega))
  replace HF : Hid (Frm noB w w17) := Lib.hid (HF.out.trans hf fun k hk h => by have h : k = bg := h; omega)
  replace HIg : Hid (IsH w17 bg []) := Lib.hid hI
  clear hI hf hb h2g
  try dsimp only
  go_wp2_with fail
  refine (copyBytes_t Ac c cc w17 (HRc.out.frm' HF.out) (by unfold Len; omega)).mono ?_
  rintro _ w18 ⟨Av, cv, rfl, hcv, ho, hf⟩
  have HO := Lib.hid ho
  have HOB := Lib.hid (own_ab ho)
  have lth := HIh.out.lt
  have ltg := HIg.out.lt
  have ltk := HIk.out.lt
  replace HF : Hid (Frm noB w w18) := Lib.hid (HF.out.trans' hf)
  replace HIh : Hid (IsH w18 bh m3) := Lib.hid (HIh.out.frm' hf)
  replace HIg : Hid (IsH w18 bg []) := Lib.hid (HIg.out.frm' hf)
  replace HIk : Hid (IsH w18 bk m4) := Lib.hid (HIk.out.frm' hf)
  clear ho hf
  try dsimp only
  go_wp2_with fail
  refine (write_any w18 bh m3 Av c cv (HT.out.frm' HF.out) HIh.out (Rd.of_own HO.out) (fun _ q hq h => by have := (HOB.out q hq).1; omega) hcv (by unfold HLen; omega) (by unfold HLen; omega)).mono ?_
  rintro _ w19 ⟨rfl, hI, hf⟩
  replace HIg : Hid (IsH w19 bg []) := Lib.hid (HIg.out.frm hf (fun h => by have h : bg = bh := h; omega))
  replace HIk : Hid (IsH w19 bk m4) := Lib.hid (HIk.out.frm hf (fun h => by have h : bk = bh := h; omega))
  replace HF : Hid (Frm noB w w19) := Lib.hid (HF.out.trans hf fun k hk h => by have h : k = bh := h; omega)
  obtain ⟨m5, hm5⟩ : ∃ m5, m5 = m3 ++ c := ⟨_, rfl⟩
  rw [← hm5] at hI
  have Lm5 : m5.length ≤ a.length + b.length + c.length := by rw [hm5, List.length_append]; omega
  have Em5 := Lib.hid hm5
  replace HIh : Hid (IsH w19 bh m5) := Lib.hid hI
  clear hI hf hm5 HO HOB hcv lth ltg ltk
  try dsimp only
  go_wp2_with fail
  refine (sum_any w19 bg [] (HT.out.frm' HF.out) HIg.out (by unfold HLen; simp)).mono ?_
  rintro _ w20 ⟨rfl, hf⟩
  replace HF : Hid (Frm noB w w20) := Lib.hid (HF.out.trans' hf)
  replace HIh : Hid (IsH w20 bh m5) := Lib.hid (HIh.out.frm' hf)
  replace HIg : Hid (IsH w20 bg []) := Lib.hid (HIg.out.frm' hf)
  replace HIk : Hid (IsH w20 bk m4) := Lib.hid (HIk.out.frm' hf)
  clear hf
  try dsimp only
  go_wp2_with fail
  have heq := fun w => eq_sha' w []
  refine (dsum_any w20 none [] 0 (HT.out.frm' HF.out) (rdRows_nil _ _) (by unfold HLen; simp) (by unfold HLen; simp)).mono ?_
  rintro _ w21 ⟨rfl, hf⟩
  rw [show ([] : List (List UInt8)).flatten = [] from rfl]
  replace HF : Hid (Frm noB w w21) := Lib.hid (HF.out.trans' hf)
  replace HIh : Hid (IsH w21 bh m5) := Lib.hid (HIh.out.frm' hf)
  replace HIg : Hid (IsH w21 bg []) := Lib.hid (HIg.out.frm' hf)
  replace HIk : Hid (IsH w21 bk m4) := Lib.hid (HIk.out.frm' hf)
  clear hf
  try dsimp only
  go_wp2_with fail
  clear heq
  refine (len_any w21 bg [] HIg.out).mono ?_
  rintro _ _ ⟨rfl, rfl⟩
  have hk4 : ((m4.length : Int) != (a.length : Int) + (c.length : Int)) = false := by have := congrArg List.length Em4.out; have h1 := congrArg List.length Em1.out; simp at this h1 ⊢; omega
  have hk4n : (m4.length != a.length + c.length) = false := by have := congrArg List.length Em4.out; have h1 := congrArg List.length Em1.out; simp at this h1 ⊢; omega
  try dsimp only
  go_wp2_with fail
  refine (len_any w21 bk m4 HIk.out).mono ?_
  rintro _ _ ⟨rfl, rfl⟩
  try dsimp only
  go_wp2_with fail
  clear hk4 hk4n
  refine (copyBytes_t Ab b cb w21 (HRb.out.frm' HF.out) (by unfold Len; omega)).mono ?_
  rintro _ w22 ⟨Av, cv, rfl, hcv, ho, hf⟩
  have HO := Lib.hid ho
  have HOB := Lib.hid (own_ab ho)
  have lth := HIh.out.lt
  have ltg := HIg.out.lt
  have ltk := HIk.out.lt
  replace HF : Hid (Frm noB w w22) := Lib.hid (HF.out.trans' hf)
  replace HIh : Hid (IsH w22 bh m5) := Lib.hid (HIh.out.frm' hf)
  replace HIg : Hid (IsH w22 bg []) := Lib.hid (HIg.out.frm' hf)
  replace HIk : Hid (IsH w22 bk m4) := Lib.hid (HIk.out.frm' hf)
  clear ho hf
  try dsimp only
  go_wp2_with fail
  refine (write_any w22 bg [] Av b cv (HT.out.frm' HF.out) HIg.out (Rd.of_own HO.out) (fun _ q hq h => by have := (HOB.out q hq).1; omega) hcv (by unfold HLen; simp) (by unfold HLen; omega)).mono ?_
  rintro _ w23 ⟨rfl, hI, hf⟩
  replace HIh : Hid (IsH w23 bh m5) := Lib.hid (HIh.out.frm hf (fun h => by have h : bh = bg := h; omega))
  replace HIk : Hid (IsH w23 bk m4) := Lib.hid (HIk.out.frm hf (fun h => by have h : bk = bg := h; omega))
  replace HF : Hid (Frm noB w w23) := Lib.hid (HF.out.trans hf fun k hk h => by have h : k = bg := h; omega)
  obtain ⟨m6, hm6⟩ : ∃ m6, m6 = [] ++ b := ⟨_, rfl⟩
  rw [← hm6] at hI
  have Lm6 : m6.length ≤ b.length := by rw [hm6]; simp
  have Em6 := Lib.hid hm6
  replace HIg : Hid (IsH w23 bg m6) := Lib.hid hI
  clear hI hf hm6 HO HOB hcv lth ltg ltk
  try dsimp only
  go_wp2_with fail
  refine (sum_any w23 bk m4 (HT.out.frm' HF.out) HIk.out (by unfold HLen; omega)).mono ?_
  rintro _ w24 ⟨rfl, hf⟩
  replace HF : Hid (Frm noB w w24) := Lib.hid (HF.out.trans' hf)
  replace HIh : Hid (IsH w24 bh m5) := Lib.hid (HIh.out.frm' hf)
  replace HIg : Hid (IsH w24 bg m6) := Lib.hid (HIg.out.frm' hf)
  replace HIk : Hid (IsH w24 bk m4) := Lib.hid (HIk.out.frm' hf)
  clear hf
  try dsimp only
  go_wp2_with fail
  refine (two_t w24 Aa Ac a c m4 ca cc (HRa.out.frm' HF.out) (HRc.out.frm' HF.out) la lc (by unfold JLen; omega) (by rw [Em4.out, Em1.out]; simp)).mono ?_
  rintro _ w25 ⟨Av, cv, rfl, hcv, ho, hf⟩
  have HO := Lib.hid ho
  replace HF : Hid (Frm noB w w25) := Lib.hid (HF.out.trans' hf)
  replace HIh : Hid (IsH w25 bh m5) := Lib.hid (HIh.out.frm' hf)
  replace HIg : Hid (IsH w25 bg m6) := Lib.hid (HIg.out.frm' hf)
  replace HIk : Hid (IsH w25 bk m4) := Lib.hid (HIk.out.frm' hf)
  clear ho hf
  try dsimp only
  go_wp2_with fail
  have heq := fun w => eq_sha' w m4
  refine (dsum1 w25 Av m4 cv (HT.out.frm' HF.out) (Rd.of_own HO.out) hcv (by unfold HLen; omega)).mono ?_
  rintro _ w26 ⟨rfl, hf⟩
  replace HF : Hid (Frm noB w w26) := Lib.hid (HF.out.trans' hf)
  replace HIh : Hid (IsH w26 bh m5) := Lib.hid (HIh.out.frm' hf)
  replace HIg : Hid (IsH w26 bg m6) := Lib.hid (HIg.out.frm' hf)
  replace HIk : Hid (IsH w26 bk m4) := Lib.hid (HIk.out.frm' hf)
  clear hf HO hcv
  try dsimp only
  go_wp2_with fail
  clear heq
  refine (sum_any w26 bg m6 (HT.out.frm' HF.out) HIg.out (by unfold HLen; omega)).mono ?_
  rintro _ w27 ⟨rfl, hf⟩
  replace HF : Hid (Frm noB w w27) := Lib.hid (HF.out.trans' hf)
  replace HIh : Hid (IsH w27 bh m5) := Lib.hid (HIh.out.frm' hf)
  replace HIg : Hid (IsH w27 bg m6) := Lib.hid (HIg.out.frm' hf)
  replace HIk : Hid (IsH w27 bk m4) := Lib.hid (HIk.out.frm' hf)
  clear hf
  try dsimp only
  go_wp2_with fail
  refine (copyBytes_t Ab b cb w27 (HRb.out.frm' HF.out) (by unfold Len; omega)).mono ?_
  rintro _ w28 ⟨Av, cv, rfl, hcv, ho, hf⟩
  have HO := Lib.hid ho
  have HOB := Lib.hid (own_ab ho)
  have lth := HIh.out.lt
  have ltg := HIg.out.lt
  have ltk := HIk.out.lt
  replace HF : Hid (Frm noB w w28) := Lib.hid (HF.out.trans' hf)
  replace HIh : Hid (IsH w28 bh m5) := Lib.hid (HIh.out.frm' hf)
  replace HIg : Hid (IsH w28 bg m6) := Lib.hid (HIg.out.frm' hf)
  replace HIk : Hid (IsH w28 bk m4) := Lib.hid (HIk.out.frm' hf)
  clear ho hf
  try dsimp only
  go_wp2_with fail
  have e6 : m6 = b := by rw [Em6.out]; rfl
  subst e6
  clear HOB lth ltg ltk
  have heq := fun w => eq_sha' w m6
  refine (dsum1 w28 Av m6 cv (HT.out.frm' HF.out) (Rd.of_own HO.out) hcv (by unfold HLen; omega)).mono ?_
  rintro _ w29 ⟨rfl, hf⟩
  replace HF : Hid (Frm noB w w29) := Lib.hid (HF.out.trans' hf)
  replace HIh : Hid (IsH w29 bh m5) := Lib.hid (HIh.out.frm' hf)
  replace HIg : Hid (IsH w29 bg m6) := Lib.hid (HIg.out.frm' hf)
  replace HIk : Hid (IsH w29 bk m4) := Lib.hid (HIk.out.frm' hf)
  clear hf HO hcv
  try dsimp only
  go_wp2_with fail
  clear heq
  refine (sum_any w29 bh m5 (HT.out.frm' HF.out) HIh.out (by unfold HLen; omega)).mono ?_
  rintro _ w30 ⟨rfl, hf⟩
  replace HF : Hid (Frm noB w w30) := Lib.hid (HF.out.trans' hf)
  replace HIh : Hid (IsH w30 bh m5) := Lib.hid (HIh.out.frm' hf)
  replace HIg : Hid (IsH w30 bg m6) := Lib.hid (HIg.out.frm' hf)
  replace HIk : Hid (IsH w30 bk m4) := Lib.hid (HIk.out.frm' hf)
  clear hf
  try dsimp only
  go_wp2_with fail
  have hR : RdRows (w30.alloc (.cells #[.slice Aa a.length ca, .slice Ab m6.length cb, .slice Ac c.length cc] 29)) (some ⟨w30.heap.size, 0, none⟩) [a, m6, c] (fun k => True ∨ k = w30.heap.size) :=
    RdRows.laid [.slice Aa a.length ca, .slice Ab m6.length cb, .slice Ac c.length cc] [a, m6, c] rfl fun i hi hi' => by
      match i, hi with
      | 0, _ => exact ⟨_, _, rfl, la, HRa.out.frm' HF.out, fun _ _ _ => trivial⟩
      | 1, _ => exact ⟨_, _, rfl, lb, HRb.out.frm' HF.out, fun _ _ _ => trivial⟩
      | 2, _ => exact ⟨_, _, rfl, lc, HRc.out.frm' HF.out, fun _ _ _ => trivial⟩
  have hfl : ([a, m6, c] : List (List UInt8)).flatten = m5 := by rw [Em5.out, Em3.out, Em1.out]; simp
  have ha : Frm noB w30 (w30.alloc (.cells #[.slice Aa a.length ca, .slice Ab m6.length cb, .slice Ac c.length cc] 29)) := (Frm.refl _ _).alloc _
  refine (join_any _ (some ⟨w30.heap.size, 0, none⟩) [a, m6, c] 3 hR (by rw [hfl]; unfold JLen; omega) (by unfold JLen; simp)).mono ?_
  rintro _ w31 ⟨v, rfl, ho, hf⟩
  rw [hfl] at ho
  obtain ⟨Av, cv, rfl, hcv⟩ := own_slice ho
  have HO := Lib.hid ho
  replace HF : Hid (Frm noB w w31) := Lib.hid (HF.out.trans' (ha.trans' hf))
  clear ho hf ha hfl hR
  try dsimp only
  go_wp2_with fail
  have heq := fun w => eq_sha' w m5
  refine (dsum1 w31 Av m5 cv (HT.out.frm' HF.out) (Rd.of_own HO.out) hcv (by unfold HLen; omega)).mono ?_
  rintro _ w32 ⟨rfl, hf⟩
  replace HF : Hid (Frm noB w w32) := Lib.hid (HF.out.trans' hf)
  clear hf HO hcv
  try dsimp only
  go_wp2_with fail
  clear heq
  go_ret
  exact ⟨rfl, HF.out⟩
end Go.Proofs.YtkhakddecmgejaaDoor
