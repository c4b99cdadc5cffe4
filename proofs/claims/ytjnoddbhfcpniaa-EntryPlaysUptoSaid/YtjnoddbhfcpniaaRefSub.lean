/-
  EntryPlays: the document's Submit.
-/
import Derived.Test.YtjnoddbhfcpniaaRefE2
import Derived.Deep.RegionLaw
import Derived.StillTailTactics
namespace Go.Proofs.Ytjnoddbhfcpniaa
open Go.RowKit
open Go.BigFrame
set_option linter.unusedVariables false
set_option linter.unusedSimpArgs false

section
variable {w : World} {b : Nat} {G : Nat → Prop} {t : RS}
def RSub (w : World) (b : Nat) (t : RS) (G : Nat → Prop) (c : Int) (l : List UInt8) (e : Ending) (w' : World) : Prop :=
  e = .returned (.int .i64 (rsubErr t c l)) ∧ ∃ G', EntR w' b (if rsubErr t c l = 0 then rtaken t c l else t) G' ∧ Frm G w w' ∧ Grow G G' w w'
theorem IsR.drewN_ {tv rv : Value} {te re : List (Int × Value)} (h : IsR w b G t tv rv te re) (n : Nat) : IsR (w.drewN n) b G t tv rv te re := h.frm' (Frm.of_drewN noB w n)
theorem RSub.no (h : EntR w b t G) {c : Int} {l : List UInt8} (n : Int) (hn : rsubErr t c l = n) (h0 : n ≠ 0) {k : Nat} : RSub w b t G c l (.returned (.int .i64 n)) (w.drewN k) := by
  unfold RSub
  rw [hn, if_neg h0]
  exact ⟨rfl, G, h.frm' (Frm.of_drewN _ _ _), Frm.of_drewN _ _ _, Grow.refl _ _ _⟩
theorem RSub.noF (h : EntR w b t G) {c : Int} {l : List UInt8} (n : Int) (hn : rsubErr t c l = n) (h0 : n ≠ 0) {w1 : World} (hf : Frm noB w w1) : RSub w b t G c l (.returned (.int .i64 n)) w1 := by
  unfold RSub
  rw [hn, if_neg h0]
  exact ⟨rfl, G, h.frm' hf, hf.any, Grow.refl _ _ _⟩
theorem RSub.no' (h : EntR w b t G) {c : Int} {l : List UInt8} (n : Int) (hn : rsubErr t c l = n) (h0 : n ≠ 0) : RSub w b t G c l (.returned (.int .i64 n)) w := RSub.no h n hn h0 (k := 0)
theorem RSub.pre {c : Int} {l : List UInt8} {w1 w' : World} {e : Ending} (hf : Frm noB w w1) (h : RSub w1 b t G c l e w') : RSub w b t G c l e w' := by
  obtain ⟨he, G', h1, h2, h3⟩ := h
  refine ⟨he, G', h1, hf.any.trans' h2, fun k hk => ?_⟩
  have := hf.size
  rcases h3 k hk with h | h
  · exact .inl h
  · exact .inr ⟨by omega, h.2⟩
/-- what Submit leaves -/
theorem rsub_state {tv rv v' u : Value} {te re : List (Int × Value)} (H : IsR w b G t tv rv te re) {c : Int} {l : List UInt8} {w1 w2 w3 : World} (f1 : Frm noB w w1) (hu : w1.ownsRow w.heap.size 5 1 u l.length (l.map bv)) (f2 : Frm (oB tv) w1 w2)
    (ho : w2.ownsRow 0 92 2 v' (te.length + 1) (fl te ++ [iv c, u])) (hv : ∀ k, oB v' k → oB tv k ∨ w1.heap.size ≤ k) (f3 : Frm (isB b) w2 w3)
    (b3 : Blk w3 b 91 #[.int .i64 t.z1, .int .i64 t.z2, .int .i64 t.clients, .int .i64 t.most, .bool t.op, .bool t.wt, .int .i64 t.kind, .int .u64 t.round, .int .i64 t.til, v', rv]) :
    EntR w3 b (rtaken t c l) (fun k => G k ∨ w.heap.size ≤ k ∧ k < w3.heap.size) ∧ Frm G w w3 ∧ Grow G (fun k => G k ∨ w.heap.size ≤ k ∧ k < w3.heap.size) w w3 := by
  have s1 := f1.size
  have s2 := f2.size
  have s3 := f3.size
  have hlt := H.lt
  have T2 := H.tk.snoc (c := c) (M := fun k => G k ∨ w.heap.size ≤ k ∧ k < w3.heap.size) f1 hu f2 ho hv (fun k hk => .inl hk) fun k h1 h2 => .inr ⟨h1, by omega⟩
  have nb : ∀ k, oB v' k → k ≠ b := fun k hk e => by
    subst e
    rcases hv k hk with h | h
    · exact H.tne h
    · have := hlt k H.gb; omega
  have T3 := T2.frm f3 (fun k hk e => nb k hk e) fun i hi k hk e => by
    subst e
    by_cases q : i < te.length
    · rw [List.getElem_append_left q] at hk; exact H.tbne q hk
    · have e1 : i = te.length := by simp at hi; omega
      subst e1
      have e2 : (te ++ [(c, u)])[te.length] = (c, u) := by simp
      rw [e2] at hk
      have := (own_lt hu k hk).1
      have := hlt k H.gb
      omega
  have R1 := H.rp.frm' f1
  have R2 := R1.frm f2 (fun k hk hk' => H.ap k hk' hk) fun i hi k hk => own_own_ne (R1.box i hi (by have := R1.len; omega)) (H.tk.frm' f1).row (by decide) hk
  have R3 := R2.frm f3 (fun k hk e => H.rne ((show k = b from e) ▸ hk)) fun i hi k hk e => H.rbne hi ((show k = b from e) ▸ hk)
  refine ⟨⟨v', rv, te ++ [(c, u)], re, b3, T3, R3.mono fun k hk => .inl hk, fun k hk hk' => ?_, .inl H.gb, fun k hk => ?_⟩, ?_, fun k hk => hk⟩
  · rcases hv k hk with h | h
    · exact H.ap k h hk'
    · have := hlt k (H.rp.inr k hk'); omega
  · rcases hk with hk | hk
    · have := hlt k hk; omega
    · exact hk.2
  · exact ((f1.any (S := G)).trans' (f2.mono fun k _ hk => H.tk.inr k hk)).trans' (f3.mono fun k _ e => (show k = b from e) ▸ H.gb)
theorem mem_clients {t : Tk} {c : Int} (h : ∀ i (h : i < t.length), t[i].1 ≠ c) : ¬ c ∈ t.map (·.1) := fun hm => by
  obtain ⟨x, hx, e⟩ := List.mem_map.1 hm
  obtain ⟨i, hi, rfl⟩ := List.getElem_of_mem hx
  exact h i hi e
set_option maxHeartbeats 400000 in
theorem rsub_c (h : EntR w b t G) {B : Nat} (hB : RB t B) (client : Int) (A : Option Addr) (l : List UInt8) (c : Nat) (hl : Rd w A (l.map bv)) (hL : Len l.length) :
    Calls Try.prog 43 #[.pointer (some ⟨b, 0, none⟩), .int .i64 client, .slice A l.length c] w (RSub w b t G client l) := by
  have HE := Lib.hid h
  obtain ⟨tv, rv, te, re, h⟩ := h
  have c4 := h.blk.cell 4
  simp at c4
  have TH := Lib.hid fun (w' : World) (cs : Array Value) (hw : Blk w' b 91 cs) (hc : cs[2]? = some (.int .i64 t.clients)) => rthere_any cs t.clients client hw hc
  by_cases h1 : 0 ≤ client ∧ client < t.clients
  · rw [decide_eq_true h1] at TH
    by_cases h2 : t.op = true
    · rw [h2] at c4
      have ha : rsubErr t client l = if client ∈ t.tk.map (·.1) then 291 else if (l.length : Int) ≠ t.size t.kind then 4 else if t.most ≤ t.tk.length then 252 else 0 := by
        unfold rsubErr; rw [if_neg (fun q => q h1), if_neg (fun q => q h2)]
      have HA := Lib.hid ha
      have c9 := h.blk.cell 9
      simp at c9
      obtain ⟨At, ct, rfl, hct⟩ := own_slice h.tk.row
      have hle : te.length = t.tk.length := h.tk.len
      rw [hle] at c9
      have hkd := hB.kd h2
      have hlt := hB.lt
      have hmo := hB.mo
      have H := Lib.hid h
      have HL := Lib.hid hl
      clear h ha hl h2 h1
      have HW := Lib.hid (Eq.refl w)
      go_enter Try.func43, Try.ntmps43
      go_wp2_with (go_at_call 48; refine (TH.out w _ H.out.blk rfl).mono ?_; rintro e w' ⟨rfl, rfl⟩)
      go_loopw [7] (fun i wr => ∃ k : Nat, k ≤ t.tk.length ∧ i = .int .i64 k ∧ wr = w ∧ ∀ j (h : j < t.tk.length), j < k → t.tk[j].1 ≠ client) (fun i _ => t.tk.length - (intOf i).toNat)
      case atStart => exact ⟨0, Nat.zero_le _, rfl, rfl, fun j _ h => absurd h (by omega)⟩
      case round =>
        obtain ⟨k, hk, rfl, rfl, hno⟩ := hrel
        by_cases hkl : k < t.tk.length
        · obtain ⟨g, cg, A', c', e1, hcg, d1, d2, hr, _, _⟩ := H.out.tk.cell hkl
          rw [hle] at e1
          injection e1 with e1 e2 e3
          subst e1; subst e3
          by_cases hf : t.tk[k].1 = client
          · rw [hf] at d1
            have hm : client ∈ t.tk.map (·.1) := List.mem_map.2 ⟨_, List.getElem_mem hkl, hf⟩
            have ha := HA.out
            rw [if_pos hm] at ha
            clear hno hr d2
            go_wp2
            go_ret
            exact RSub.no' HE.out 291 ha (by decide)
          · have hf' : (t.tk[k].1 == client) = false := by simpa using hf
            have HNO := Lib.hid hno
            clear hno hr d2
            go_wp2
            go_roundw
            case rel =>
              refine ⟨k + 1, by omega, by go_num, trivial, fun j hj hjk => ?_⟩
              by_cases q : j = k
              · subst q; exact hf
              · exact HNO.out j hj (by omega)
            case measure => simp [intOf]; omega
        · have e : k = t.tk.length := by omega
          subst e
          have hm : ¬ client ∈ t.tk.map (·.1) := mem_clients fun i hi => hno i hi hi
          have ha := HA.out
          rw [if_neg hm] at ha
          clear hno HA hm
          have c6 := H.out.blk.cell 6
          have c3 := H.out.blk.cell 3
          simp at c6 c3
          go_upto_region 10 with fail
          rcases hkd with hk1 | hk1
          · rw [hk1] at c6
            have c0 := H.out.blk.cell 0
            simp at c0
            rw [show t.size t.kind = t.z1 by rw [hk1]; rfl] at ha
            by_cases hz : (l.length : Int) = t.z1
            · rw [if_neg (show ¬ ((l.length : Int) ≠ t.z1) from fun q => q hz)] at ha
              have hz' : ((l.length : Int) != t.z1) = false := by simpa using hz
              go_quiet (fail)
              go_upto_region 12 with fail
              by_cases hm : t.most ≤ t.tk.length
              · rw [if_pos hm] at ha
                go_quiet (fail)
                go_wp2
                go_ret
                exact RSub.noF HE.out 252 ha (by decide) (by first | exact Frm.of_drewN _ _ _ | exact (Frm.of_drewN _ _ _).drewN _)
              · rw [if_neg hm] at ha
                have hm' : (t.tk.length : Int) < t.most := by omega
                have F2 := Lib.hid (Frm.of_drewN noB wr nq)
                have H2 := Lib.hid (H.out.frm' F2.out)
                have L2 := Lib.hid (HL.out.drewN nq)
                have d9 : (wr.drewN nq).cell? ⟨b, 9, none⟩ = _ := c9
                have d3 : (wr.drewN nq).cell? ⟨b, 3, none⟩ = _ := c3
                clear c9 c3 c6 c0 c4
                generalize wr.drewN nq = w2 at *
                go_quiet (fail)
                go_upto_region 14 with fail
                have F3 := Lib.hid (F2.out.trans' (Frm.of_drewN noB w2 nq))
                have H3 := Lib.hid (H2.out.drewN_ nq)
                have L3 := Lib.hid (L2.out.drewN nq)
                have e9 : (w2.drewN nq).cell? ⟨b, 9, none⟩ = _ := d9
                clear d9 d3 H2 L2 F2
                generalize w2.drewN nq = w3 at *
                go_region_law (first | (refine step_app2 infoTk rfl 0 T4.out _ _ rfl rfl rfl rfl rfl (by omega) (by omega) (Nat.zero_le _) ?_; intro A5 q5 w5 ho5 hq5 hf5 hv5; have B5 := Lib.hid (B4.out.frm hf5 (B4.out.own_ne T4.out (by decide))); have z5 := B5.out.frozen 9; have e95 := B5.out.cell 9; simp at e95; have O5 := Lib.hid ho5; have F5 := Lib.hid hf5; have V5 := Lib.hid hv5; clear ho5 hf5 hv5) | (go_simp; go_at_call 16; refine (copyBytes_any A l c w3.drew L3.out.drew hL).mono ?_; rintro e w4 ⟨v, rfl, ho, hf⟩; obtain ⟨A4, q4, rfl, hq4⟩ := own_slice ho; have F4 := Lib.hid (((Frm.refl noB w3).drew).trans' hf); have B4 := Lib.hid (H3.out.blk.frm' F4.out); have T4 := Lib.hid (own_frm' H3.out.tk.row F4.out); rw [hle] at T4; have e94 := F4.out.cell_some e9 (fun h => h); have e95 := (((Frm.refl noB w4).alloc (.cells #[.int .i64 client, .slice A4 l.length q4] 92)).cell_some e94 (fun h => h)); have O4 := Lib.hid ho; clear ho hf))
                all_goals
                  have B6 := B5.out.set_ 9 (.slice A5 (t.tk.length + 1) q5)
                  have F6 : Frm (isB b) w5 (w5.setCell ⟨b, 9, none⟩ (.slice A5 (t.tk.length + 1) q5)) := (Frm.refl (isB b) w5).setCell (a := ⟨b, 9, none⟩) (.inl (show isB b b from rfl)) _
                  clear z5 e95 e94 e9
                  generalize w5.setCell ⟨b, 9, none⟩ (.slice A5 (t.tk.length + 1) q5) = w6 at *
                  simp only [List.setIfInBounds_toArray, List.set_cons_succ, List.set_cons_zero] at B6
                  have O6 := O5.out
                  have G5 := F5.out
                  have V6 := V5.out
                  rw [← hle] at B6 O6 G5 V6
                  have hh := Lib.hid (rsub_state (c := client) (l := l) H3.out F4.out O4.out G5 O6 V6 F6 B6)
                  clear B6 F6 O6 G5 V6
                  go_wp2
                  go_ret
                  refine RSub.pre F3.out ⟨by rw [ha]; rfl, _, ?_, hh.out.2.1, hh.out.2.2⟩
                  rw [ha, if_pos rfl]
                  exact hh.out.1
            · rw [if_pos (show (l.length : Int) ≠ t.z1 from hz)] at ha
              have hz' : ((l.length : Int) != t.z1) = true := by simpa using hz
              go_quiet (fail)
              go_wp2
              go_ret
              exact RSub.no HE.out 4 ha (by decide)
          · rw [hk1] at c6
            have c1 := H.out.blk.cell 1
            simp at c1
            rw [show t.size t.kind = t.z2 by rw [hk1]; rfl] at ha
            by_cases hz : (l.length : Int) = t.z2
            · rw [if_neg (show ¬ ((l.length : Int) ≠ t.z2) from fun q => q hz)] at ha
              have hz' : ((l.length : Int) != t.z2) = false := by simpa using hz
              go_quiet (fail)
              go_upto_region 12 with fail
              by_cases hm : t.most ≤ t.tk.length
              · rw [if_pos hm] at ha
                go_quiet (fail)
                go_wp2
                go_ret
                exact RSub.noF HE.out 252 ha (by decide) (by first | exact Frm.of_drewN _ _ _ | exact (Frm.of_drewN _ _ _).drewN _)
              · rw [if_neg hm] at ha
                have hm' : (t.tk.length : Int) < t.most := by omega
                have F2 := Lib.hid (Frm.of_drewN noB wr nq)
                have H2 := Lib.hid (H.out.frm' F2.out)
                have L2 := Lib.hid (HL.out.drewN nq)
                have d9 : (wr.drewN nq).cell? ⟨b, 9, none⟩ = _ := c9
                have d3 : (wr.drewN nq).cell? ⟨b, 3, none⟩ = _ := c3
                clear c9 c3 c6 c1 c4
                generalize wr.drewN nq = w2 at *
                go_quiet (fail)
                go_upto_region 14 with fail
                have F3 := Lib.hid (F2.out.trans' (Frm.of_drewN noB w2 nq))
                have H3 := Lib.hid (H2.out.drewN_ nq)
                have L3 := Lib.hid (L2.out.drewN nq)
                have e9 : (w2.drewN nq).cell? ⟨b, 9, none⟩ = _ := d9
                clear d9 d3 H2 L2 F2
                generalize w2.drewN nq = w3 at *
                go_region_law (first | (refine step_app2 infoTk rfl 0 T4.out _ _ rfl rfl rfl rfl rfl (by omega) (by omega) (Nat.zero_le _) ?_; intro A5 q5 w5 ho5 hq5 hf5 hv5; have B5 := Lib.hid (B4.out.frm hf5 (B4.out.own_ne T4.out (by decide))); have z5 := B5.out.frozen 9; have e95 := B5.out.cell 9; simp at e95; have O5 := Lib.hid ho5; have F5 := Lib.hid hf5; have V5 := Lib.hid hv5; clear ho5 hf5 hv5) | (go_simp; go_at_call 16; refine (copyBytes_any A l c w3.drew L3.out.drew hL).mono ?_; rintro e w4 ⟨v, rfl, ho, hf⟩; obtain ⟨A4, q4, rfl, hq4⟩ := own_slice ho; have F4 := Lib.hid (((Frm.refl noB w3).drew).trans' hf); have B4 := Lib.hid (H3.out.blk.frm' F4.out); have T4 := Lib.hid (own_frm' H3.out.tk.row F4.out); rw [hle] at T4; have e94 := F4.out.cell_some e9 (fun h => h); have e95 := (((Frm.refl noB w4).alloc (.cells #[.int .i64 client, .slice A4 l.length q4] 92)).cell_some e94 (fun h => h)); have O4 := Lib.hid ho; clear ho hf))
                all_goals
                  have B6 := B5.out.set_ 9 (.slice A5 (t.tk.length + 1) q5)
                  have F6 : Frm (isB b) w5 (w5.setCell ⟨b, 9, none⟩ (.slice A5 (t.tk.length + 1) q5)) := (Frm.refl (isB b) w5).setCell (a := ⟨b, 9, none⟩) (.inl (show isB b b from rfl)) _
                  clear z5 e95 e94 e9
                  generalize w5.setCell ⟨b, 9, none⟩ (.slice A5 (t.tk.length + 1) q5) = w6 at *
                  simp only [List.setIfInBounds_toArray, List.set_cons_succ, List.set_cons_zero] at B6
                  have O6 := O5.out
                  have G5 := F5.out
                  have V6 := V5.out
                  rw [← hle] at B6 O6 G5 V6
                  have hh := Lib.hid (rsub_state (c := client) (l := l) H3.out F4.out O4.out G5 O6 V6 F6 B6)
                  clear B6 F6 O6 G5 V6
                  go_wp2
                  go_ret
                  refine RSub.pre F3.out ⟨by rw [ha]; rfl, _, ?_, hh.out.2.1, hh.out.2.2⟩
                  rw [ha, if_pos rfl]
                  exact hh.out.1
            · rw [if_pos (show (l.length : Int) ≠ t.z2 from hz)] at ha
              have hz' : ((l.length : Int) != t.z2) = true := by simpa using hz
              go_quiet (fail)
              go_wp2
              go_ret
              exact RSub.no HE.out 4 ha (by decide)
    · have h2' : t.op = false := by simpa using h2
      rw [h2'] at c4
      have ha : rsubErr t client l = 290 := by unfold rsubErr; rw [if_neg (fun q => q h1), if_pos h2]
      have H := Lib.hid h
      clear h hl h2 h2' h1
      go_enter Try.func43, Try.ntmps43
      go_wp2_with (go_at_call 48; refine (TH.out w _ H.out.blk rfl).mono ?_; rintro e w' ⟨rfl, rfl⟩)
      go_ret
      exact RSub.no' HE.out 290 ha (by decide)
  · rw [decide_eq_false h1] at TH
    have ha : rsubErr t client l = 292 := by unfold rsubErr; rw [if_pos h1]
    have H := Lib.hid h
    clear h hl h1 c4
    go_enter Try.func43, Try.ntmps43
    go_wp2_with (go_at_call 48; refine (TH.out w _ H.out.blk rfl).mono ?_; rintro e w' ⟨rfl, rfl⟩)
    go_ret
    exact RSub.no' HE.out 292 ha (by decide)
end
end Go.Proofs.Ytjnoddbhfcpniaa
