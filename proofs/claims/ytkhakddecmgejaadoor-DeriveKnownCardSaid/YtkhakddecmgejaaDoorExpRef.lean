/-
  trystref04: Expand, Drawn.
-/
import Derived.Test.YtkhakddecmgejaaDoorMacRef3
import Derived.Test.YtkhakddecmgejaaDoorAppN
namespace Go.Proofs.YtkhakddecmgejaaDoor
open Go.RowKit
set_option linter.unusedVariables false
set_option linter.unusedSimpArgs false

/-- a row that has just been laid -/
theorem own_laid (w : World) (e : TypeId) (xs : List Value) (h : xs.length ≤ 1000) : (w.alloc (.cells xs.toArray e)).ownsRow w.heap.size e 1 (.slice (some ⟨w.heap.size, 0, none⟩) xs.length xs.length) xs.length xs :=
  ⟨by omega, .inr ⟨_, _, _, rfl, Nat.le_refl _, heap_alloc_new w _, Nat.le_refl _, by unfold maxLen; omega, by simp, by simp⟩⟩
theorem own_laid0 (w : World) (e : TypeId) : (w.alloc (.cells #[] e)).ownsRow w.heap.size e 1 (.slice (some ⟨w.heap.size, 0, none⟩) 0 0) 0 [] := own_laid w e [] (by decide)
/-- the beginning of a row -/
theorem own_take {w : World} {base e m n c : Nat} {A : Option Addr} {xs : List Value} (h : w.ownsRow base e 1 (.slice A m c) m xs) (hn : n ≤ m) : w.ownsRow base e 1 (.slice A n c) n (xs.take n) := by
  have hl := h.1
  refine ⟨by rw [List.length_take]; omega, ?_⟩
  rcases h.2 with ⟨e1, h0⟩ | ⟨g, cap, cur, e1, hb, hg, hnc, hcm, hcs, ht⟩
  · injection e1 with a1 a2 a3
    subst a1; subst a3
    have : n = 0 := by omega
    subst this
    exact .inl ⟨rfl, rfl⟩
  · injection e1 with a1 a2 a3
    subst a1; subst a3
    exact .inr ⟨g, _, cur, rfl, hb, hg, by omega, hcm, hcs, by rw [← ht, List.take_take]; congr 1; omega⟩

theorem rmac_n (w : World) (A B : Option Addr) (key text : List UInt8) (n m cap cb : Nat) (hn : key.length = n) (hm : text.length = m) (hx : Rd w A (key.map bv)) (hb : Rd w B (text.map bv)) (hl : JLen n) (hm' : m ≤ 1000000000) :
    Calls Tryd.prog 38 #[.slice A n cap, .slice B m cb] w fun e w' => e = .returned (.agg (arr 32 (shaAt (macT key text)))) ∧ Frm noB w w' := by
  subst hn; subst hm
  exact rmac_any w A B key text cap cb hx hb hl hm'

theorem rexpand_bad (w : World) (mp : List UInt8) (B : Option Addr) (info : List UInt8) (cb : Nat) (n : Int) (h : wrongI n 8160 ≠ 0) :
    Calls Tryd.prog 51 #[.agg (arr 32 (shaAt mp)), .slice B info.length cb, .int .i64 n] w fun e w' => e = .returned (.slice none 0 0) ∧ Frm noB w w' := by
  have hf0 : Frm noB w (w.alloc (.cells (arr 32 (shaAt mp)) 26)) := (Frm.refl _ _).alloc _
  have hcase : wrongI n 8160 = 2 ∨ wrongI n 8160 = 3 := by
    unfold wrongI at h ⊢
    split
    · exact .inl rfl
    · split
      · exact .inr rfl
      · rename_i h1 h2; simp [h1, h2] at h
  rcases hcase with hc | hc
  all_goals
    have HC := Lib.hid hc
    clear hc h
    go_enter Tryd.func51, Tryd.ntmps51
    go_wp2_with fail
    refine (wrong_any _ n 8160 _ HC.out).mono ?_
    rintro _ _ ⟨rfl, rfl⟩
    try dsimp only
    go_wp2_with fail
    go_ret
    exact ⟨rfl, hf0⟩

set_option maxRecDepth 100000 in
set_option maxHeartbeats 2000000 in
theorem rexpand_any (w : World) (mp : List UInt8) (B : Option Addr) (info : List UInt8) (cb : Nat) (n : Nat) (hn : n ≤ 8160) (hb : Rd w B (info.map bv)) (hl : info.length ≤ 900000000) :
    Calls Tryd.prog 51 #[.agg (arr 32 (shaAt mp)), .slice B info.length cb, .int .i64 n] w fun e w' => ∃ A' c', e = .returned (.slice A' n c') ∧ w'.ownsRow w.heap.size 5 1 (.slice A' n c') n ((expL (sha mp) info n).map bv) ∧ Frm noB w w' := by
  have hw0 : wrongI n 8160 = 0 := by unfold wrongI; rw [if_neg (by omega), if_neg (by omega)]
  have HW0 := Lib.hid hw0
  have hbp := Blk.new w 26 (arr 32 (shaAt mp))
  have hf0 : Frm noB w (w.alloc (.cells (arr 32 (shaAt mp)) 26)) := (Frm.refl _ _).alloc _
  obtain ⟨pk, hpk⟩ : ∃ pk, pk = sha mp := ⟨_, rfl⟩
  have HPK := Lib.hid hpk
  have HPL : Hid (pk.length = 32) := Lib.hid (by rw [hpk]; exact sha_length _)
  rw [← hpk]
  have HB := Lib.hid hb
  clear hw0 hpk hb
  go_enter Tryd.func51, Tryd.ntmps51
  go_upto_region 1 with fail
  generalize w.alloc (.cells (arr 32 (shaAt mp)) 26) = w1 at *
  have HBP := Lib.hid hbp
  have HF0 := Lib.hid hf0
  have hs1 : w.heap.size < w1.heap.size := hbp.lt
  clear hbp hf0
  go_wp2_with fail
  refine (wrong_any _ n 8160 _ HW0.out).mono ?_
  rintro _ _ ⟨rfl, rfl⟩
  try dsimp only
  go_wp2_with fail
  go_loopw [7, 8, 9] (fun vo vt i wr => ∃ k : Nat, k ≤ pcs n ∧ i = .int .i64 ((k : Int) + 1) ∧ wr.ownsRow w1.heap.size 5 1 vo (32 * k) ((oCh pk info k).map bv) ∧ wr.ownsRow w1.heap.size 5 1 vt (tCh pk info k).length ((tCh pk info k).map bv) ∧ (∀ q, oB vt q → ¬ oB vo q) ∧ Frm noB w1 wr) (fun vo _ _ _ => n - lenV vo)
  case atStart => exact ⟨0, Nat.zero_le _, rfl, World.ownsRow_nil _ _ _ _, World.ownsRow_nil _ _ _ _, fun q h => by simp [oB, Value.ownBlock] at h, Frm.refl _ _⟩
  case round =>
    obtain ⟨k, hk, rfl, ho, ht, hne, hF⟩ := hrel
    obtain ⟨Ao, co, rfl, hco⟩ := own_slice ho
    obtain ⟨At, ct, rfl, hct⟩ := own_slice ht
    have HO := Lib.hid ho
    have HT := Lib.hid ht
    have HNE := Lib.hid hne
    have HF := Lib.hid hF
    have hsz := hF.size
    have htl := tCh_le pk info k
    clear ho ht hne hF
    by_cases hlt : 32 * k < n
    · have hk254 : k ≤ 254 := by omega
      have hmod : ((k : Int) + 1) % 256 = k + 1 := by omega
      generalize htk : (tCh pk info k).length = tl at *
      have HTK := Lib.hid htk
      clear htk
      go_upto_region 9 with (first | (at_builtin; refine appN info29 rfl wr.heap.size (own_laid0 wr 5) (.tmp 20) (.tmp 21) rfl rfl rfl (by rw [List.length_map]; exact HTK.out) ((Rd.of_own HT.out).frm' ((Frm.refl _ _).alloc _)) (bv_one _) tl (by omega) _ rfl (by omega) (by omega) (by simp) ?_; intro A2 c2 w2 ho2 hc2 hf2 hv2; have HO2 := Lib.hid ho2; have HF2 : Hid (Frm noB wr w2) := Lib.hid (((Frm.refl noB wr).alloc _).trans hf2 fun k hk h => by have h : wr.heap.size = k := (by simpa [oB, Value.ownBlock] using h); omega); clear ho2 hf2 hv2 hc2) | (at_builtin; refine appN info29 rfl wr.heap.size HO2.out (.tmp 22) (.tmp 23) rfl rfl rfl (by rw [List.length_map]) (HB.out.frm' (HF0.out.trans' (HF.out.trans' HF2.out))) (bv_one _) (tl + info.length) rfl _ rfl (by omega) (by omega) HF2.out.size ?_; intro A3 c3 w3 ho3 hc3 hf3 hv3; have HO3 := Lib.hid ho3; have HF3 : Hid (Frm noB wr w3) := Lib.hid (HF2.out.trans hf3 fun k hk h => by have := (own_lt HO2.out k h).1; omega); clear ho3 hf3 hv3 hc3))
      clear HO2 HF2
      go_upto_region 10 with (first | (refine wpList_load_row rfl _ _ rfl w.heap.size rfl 26 _ (0, 0) _ (HBP.out.frm' (HF.out.trans' HF3.out)) Tryd.underlying26 rfl (by rw [arr_size]; kernel_rfl) ?_))
      refine (list_any w3 mp).mono ?_
      rintro _ w4 ⟨A4, c4, rfl, ho4, hf4⟩
      have HO4 : Hid (Rd w4 A4 (pk.map bv)) := Lib.hid (by rw [HPK.out]; exact Rd.of_own ho4)
      have HF4 : Hid (Frm noB wr w4) := Lib.hid (HF3.out.trans' hf4)
      have HO3' := Lib.hid (own_frm' HO3.out hf4)
      have HBK : Hid (bv (UInt8.ofNat (k + 1)) = .int .u8 ((k : Int) + 1)) := Lib.hid (by
        unfold bv
        rw [UInt8.toNat_ofNat']
        congr 1)
      have H3L := Lib.hid fun q hq => (own_lt HO3.out q hq).2
      have H4G : Hid (∀ q, aB A4 q → w3.heap.size ≤ q) := Lib.hid fun q ⟨a, ha, hq⟩ => (own_lt ho4 q (by subst ha; subst hq; rfl)).1
      clear ho4 hf4 HF3 HO3
      try dsimp only
      go_wp2_with (at_builtin; refine app1N info29 rfl wr.heap.size HO3'.out (.tmp 27) (.tmp 30) rfl rfl rfl rfl rfl (tl + info.length + 1) rfl ((tCh pk info k ++ info ++ [UInt8.ofNat (k + 1)]).map bv) (by rw [List.map_append, List.map_append, List.map_cons, List.map_nil, HBK.out, List.nil_append]) (by omega) (by omega) HF4.out.size ?_; intro A5 c5 w5 ho5 hc5 hf5 hv5; have HO5 := Lib.hid ho5; have HF45 := Lib.hid hf5; clear ho5 hf5 hv5 hc5)
      obtain ⟨tx, htx⟩ : ∃ tx, tx = tCh pk info k ++ info ++ [UInt8.ofNat (k + 1)] := ⟨_, rfl⟩
      have HTX := Lib.hid htx
      have hRT : Rd w5 A5 (tx.map bv) := by rw [htx]; exact Rd.of_own HO5.out
      have htxl : tx.length = tl + info.length + 1 := by rw [htx]; simp [HTK.out]; omega
      have HRT := Lib.hid hRT
      have HTXL := Lib.hid htxl
      have HF5 : Hid (Frm noB wr w5) := Lib.hid (HF4.out.trans HF45.out fun k hk h => by have := (own_lt HO3'.out k h).1; omega)
      have HK5 := Lib.hid (HO4.out.frm HF45.out fun q hq h => by
        have := H3L.out q h
        have := H4G.out q hq
        omega)
      obtain ⟨mq, hmq⟩ : ∃ mq, mq = macT pk tx := ⟨_, rfl⟩
      have HMQ := Lib.hid hmq
      have HRM := Lib.hid (rmac_n w5 A4 A5 pk tx 32 (tl + info.length + 1) c4 c5 HPL.out HTXL.out HK5.out HRT.out (by unfold JLen; omega) (by omega))
      have hrm := HRM.out
      rw [← hmq] at hrm
      have HR := Lib.hid hrm
      clear hmq htx hRT htxl HO5 HF45 HO4 HO3' HRM hrm
      refine HR.out.mono ?_
      rintro _ w6 ⟨rfl, hf6⟩
      have HF6 := Lib.hid (HF5.out.trans' hf6)
      clear hf6 HR
      try dsimp only
      go_wp2_with fail
      refine (list_any w6 mq).mono ?_
      rintro _ w7 ⟨A7, c7, rfl, ho7, hf7⟩
      have HO7 : Hid (w7.ownsRow w6.heap.size 5 1 (.slice A7 32 c7) 32 ((tCh pk info (k + 1)).map bv)) := Lib.hid (by
        have : sha mq = tCh pk info (k + 1) := by rw [HMQ.out, HTX.out]; rfl
        rw [← this]; exact ho7)
      have HF7 := Lib.hid (HF6.out.trans' hf7)
      have h67 := hf7.size
      have hr6 := HF6.out.size
      clear ho7 hf7 HF6
      try dsimp only
      go_wp2_with (at_builtin; refine appN info29 rfl w1.heap.size (own_frm' HO.out HF7.out) (.tmp 34) (.tmp 35) rfl rfl rfl (by rw [List.length_map, tCh_length]) (Rd.of_own HO7.out) (bv_one _) (32 * (k + 1)) (by omega) ((oCh pk info (k + 1)).map bv) (by rw [← List.map_append]; rfl) (by omega) (by omega) (by omega) ?_; intro A8 c8 w8 ho8 hc8 hf8 hv8; have HO8 := Lib.hid ho8; have HF8 := Lib.hid hf8; have HV8 := Lib.hid hv8; clear ho8 hf8 hv8 hc8)
      have hvo : ∀ q, oB (.slice Ao (32 * k) co) q → q < wr.heap.size := fun q hq => (own_lt HO.out q hq).2
      have hvt : ∀ q, oB (.slice A7 32 c7) q → w6.heap.size ≤ q ∧ q < w7.heap.size := fun q hq => own_lt HO7.out q hq
      refine ⟨⟨k + 1, by unfold pcs; omega, by go_num, HO8.out, ?_, fun q hq h => ?_, HF.out.trans ((HF7.out.any (S := oB (.slice Ao (32 * k) co))).trans' HF8.out) fun q hq h => by have := (own_lt HO.out q h).1; omega⟩, by simp [lenV]; omega⟩
      · rw [tCh_length]
        exact own_base (own_frm HO7.out HF8.out fun q hq h => by have := hvo q h; have := hvt q hq; omega) fun q hq => by have := hvt q hq; omega
      · have := hvt q hq
        rcases HV8.out q h with h | h
        · have := hvo q h; omega
        · omega
    · have hk2 : k = pcs n := by unfold pcs at hk ⊢; omega
      have HR : Hid (wr.ownsRow w.heap.size 5 1 (.slice Ao n co) n ((expL pk info n).map bv)) := Lib.hid (by
        have h := own_take HO.out (n := n) (by omega)
        rw [← List.map_take, hk2] at h
        exact own_base h fun q hq => by have := (own_lt h q hq).1; omega)
      have hnk : n ≤ 32 * k := by omega
      have hnc : n ≤ co := by omega
      clear HO HT HNE hk2
      go_wp2_with fail
      go_ret
      exact ⟨_, _, rfl, HR.out, HF0.out.trans' HF.out⟩
end Go.Proofs.YtkhakddecmgejaaDoor
