/-
  EntryPlays: the document's Collect.
-/
import Derived.Test.YtjnoddbhfcpniaaRefAns
namespace Go.Proofs.Ytjnoddbhfcpniaa
open Go.RowKit
open Go.BigFrame
set_option linter.unusedVariables false
set_option linter.unusedSimpArgs false

/-- one more, whose box lies where it lay -/
theorem IsTk.push {w w2 : World} {N M : Nat → Prop} {v v' u : Value} {es : List (Int × Value)} {t : Tk} {c : Int} {l : List UInt8} (h : IsTk w N v es t) (hu : w.ownsRow 0 5 1 u l.length (l.map bv)) (huN : ∀ k, oB u k → M k) (f2 : Frm (oB v) w w2)
    (ho : w2.ownsRow 0 92 2 v' (es.length + 1) (fl es ++ [iv c, u])) (hv : ∀ k, oB v' k → M k) (hM : ∀ k, N k → M k) : IsTk w2 M v' (es ++ [(c, u)]) (t ++ [(c, l)]) := by
  have hl := h.len
  have h2 : ∀ i (hi : i < es.length) (hi' : i < t.length), w2.ownsRow 0 5 1 es[i].2 t[i].2.length (t[i].2.map bv) := fun i hi hi' => own_frm (h.box i hi hi') f2 (h.apart hi)
  have last : ∀ i (hi : i < (es ++ [(c, u)]).length), ¬ i < es.length → i = es.length := fun i hi e => by simp at hi; omega
  refine ⟨by rw [fl_append]; simpa [fl] using ho, by simp [hl], fun i hi hi' => ?_, fun i hi hi' => ?_, hv, fun i hi k hk => ?_⟩
  · by_cases e : i < es.length
    · rw [List.getElem_append_left e, List.getElem_append_left (by omega)]; exact h.fst i e (by omega)
    · have := last i hi e
      subst this
      simp [hl]
  · by_cases e : i < es.length
    · have e' : i < t.length := by omega
      simp only [List.getElem_append_left e, List.getElem_append_left e']
      exact h2 i e e'
    · have := last i hi e
      subst this
      have e1 : (es ++ [(c, u)])[es.length] = (c, u) := by simp
      have e2 : (t ++ [(c, l)])[es.length]'(by simp; omega) = (c, l) := by rw [List.getElem_append_right (by omega)]; simp [hl]
      rw [e1, e2]
      exact own_frm hu f2 fun k hk => own_own_ne hu h.row (by decide) hk
  · by_cases e : i < es.length
    · simp only [List.getElem_append_left e] at hk
      exact hM k (h.inb i e k hk)
    · have := last i hi e
      subst this
      have e1 : (es ++ [(c, u)])[es.length] = (c, u) := by simp
      rw [e1] at hk
      exact huN k hk
/-- what is found -/
def Found (w : World) (G : Nat → Prop) (r : Option (List UInt8)) (v : Value) (yes : Bool) : Prop :=
  (r = none ∧ v = .slice none 0 0 ∧ yes = false) ∨ ∃ l A q, r = some l ∧ v = .slice A l.length q ∧ yes = true ∧ w.ownsRow 0 5 1 (.slice A l.length q) l.length (l.map bv) ∧ ∀ k, oB (.slice A l.length q) k → G k
section
variable {w : World} {b : Nat} {G : Nat → Prop} {t : RS}
structure RCo (w wr : World) (b : Nat) (G : Nat → Prop) (t : RS) (c : Int) (k : Nat) (lv : Value) (le : List (Int × Value)) (fv : Value) (yes : Bool) : Prop where
  fr : Frm noB w wr
  left : IsTk wr (fun q => G q ∨ w.heap.size ≤ q ∧ q < wr.heap.size) lv le (leftOf (t.rp.take k) c)
  ln : ∀ q, oB lv q → w.heap.size ≤ q
  fd : Found w G (lastOf t.rp k c) fv yes
def RCol (w : World) (b : Nat) (t : RS) (G : Nat → Prop) (c : Int) (e : Ending) (w' : World) : Prop :=
  (¬ (0 ≤ c ∧ c < t.clients) ∧ e = .returned (.tuple #[.slice none 0 0, .bool false, .int .i64 292]) ∧ w' = w) ∨
  ((0 ≤ c ∧ c < t.clients) ∧ ∃ v yes G', e = .returned (.tuple #[v, .bool yes, .int .i64 0]) ∧ EntR w' b (rcollected t c) G' ∧ Frm (isB b) w w' ∧ Grow G G' w w' ∧ Found w G (lastOf t.rp t.rp.length c) v yes)
set_option maxRecDepth 100000 in
set_option maxHeartbeats 400000 in
theorem rcol_c (h : EntR w b t G) {B : Nat} (hB : RB t B) (client : Int) :
    Calls Try.prog 41 #[.pointer (some ⟨b, 0, none⟩), .int .i64 client] w (RCol w b t G client) := by
  obtain ⟨tv, rv, te, re, h⟩ := h
  have TH := Lib.hid fun (w' : World) (cs : Array Value) (hw : Blk w' b 91 cs) (hc : cs[2]? = some (.int .i64 t.clients)) => rthere_any cs t.clients client hw hc
  by_cases h1 : 0 ≤ client ∧ client < t.clients
  · rw [decide_eq_true h1] at TH
    have hlr := hB.lr
    obtain ⟨Ar, cr, rfl, hcr⟩ := own_slice h.rp.row
    have hle : re.length = t.rp.length := h.rp.len
    have c10 := h.blk.cell 10
    simp at c10
    rw [hle] at c10
    have H := Lib.hid h
    clear h hB
    go_enter Try.func41, Try.ntmps41
    go_wp2_with (go_at_call 48; refine (TH.out w _ H.out.blk rfl).mono ?_; rintro e w' ⟨rfl, rfl⟩)
    go_loopw [7, 8, 9, 10] (fun lv fv yv i wr => ∃ (k : Nat) (le : List (Int × Value)) (yes : Bool), k ≤ t.rp.length ∧ i = .int .i64 k ∧ yv = .bool yes ∧ RCo w wr b G t client k lv le fv yes) (fun _ _ _ i _ => t.rp.length - (intOf i).toNat)
    case atStart => exact ⟨0, [], false, Nat.zero_le _, rfl, rfl, Frm.refl _ _, IsTk.nil _ _, fun q hq => by simp [oB, Value.ownBlock] at hq, .inl ⟨rfl, rfl, rfl⟩⟩
    case round =>
      obtain ⟨k, le, yes, hk, rfl, rfl, hR⟩ := hrel
      have d10 := hR.fr.cell_some c10 (fun h => h)
      by_cases hkl : k < t.rp.length
      · obtain ⟨g, cg, A', c', e1, hcg, d1, d2, hr, hre, hgo⟩ := (H.out.rp.frm' hR.fr).cell hkl
        rw [hle] at e1
        injection e1 with e1 e2 e3
        subst e1; subst e3
        have hRk := (H.out.rp.frm' hR.fr).box k (by omega) hkl
        have hbx := H.out.rp.inb k (by omega)
        obtain ⟨hk2, hre2⟩ := List.getElem?_eq_some_iff.1 hre
        rw [hre2] at hRk hbx
        have hrw := H.out.rp.box k (by omega) hkl
        rw [hre2] at hrw
        by_cases hf : t.rp[k].1 = client
        · have hf' := hf
          rw [hf] at d1
          have eL : leftOf (t.rp.take (k + 1)) client = leftOf (t.rp.take k) client := by
            unfold leftOf
            rw [List.take_succ_eq_append_getElem hkl, List.filter_append]
            simp [hf]
          have eF : lastOf t.rp (k + 1) client = some t.rp[k].2 := by
            simp only [lastOf, List.getElem?_eq_getElem hkl, Option.getD_some, hf, if_true]
          have hN : RCo w wr b G t client (k + 1) _ le (.slice A' t.rp[k].2.length c') true :=
            ⟨hR.fr, by rw [eL]; exact hR.left, hR.ln, .inr ⟨_, A', c', eF, rfl, rfl, hrw, hbx⟩⟩
          have HN := Lib.hid hN
          clear hN eL eF hR hr hrw hRk hbx hre hre2 hf hf'
          go_wp2_with fail
          go_roundw
          case rel => exact ⟨k + 1, le, true, by omega, by go_num, rfl, HN.out⟩
          case measure => simp [intOf]; omega
        · have hf' : (t.rp[k].1 == client) = false := by simpa using hf
          obtain ⟨Al, cl, hlv, hcl⟩ := own_slice hR.left.row
          subst hlv
          have eL : leftOf (t.rp.take (k + 1)) client = leftOf (t.rp.take k) client ++ [t.rp[k]] := by
            unfold leftOf
            rw [List.take_succ_eq_append_getElem hkl, List.filter_append]
            simp [hf]
          have eF : lastOf t.rp (k + 1) client = lastOf t.rp k client := by
            simp only [lastOf, List.getElem?_eq_getElem hkl, Option.getD_some, if_neg hf]
          have hll : le.length ≤ 256 := by
            have e1 := hR.left.len
            have e2 : (leftOf (t.rp.take k) client).length ≤ (t.rp.take k).length := List.length_filter_le _ _
            have e3 : (t.rp.take k).length ≤ t.rp.length := by simp; omega
            omega
          have HR := Lib.hid hR
          have HLV := Lib.hid hR.left.row
          have HRK := Lib.hid hRk
          have HBX := Lib.hid hbx
          have HE := Lib.hid (And.intro eL eF)
          clear hR hr hrw hRk hbx hre hre2 hf eL eF hcl
          go_wp2_with (at_builtin; refine app2 infoTk rfl 0 HLV.out _ _ rfl rfl rfl rfl rfl (by omega) (by omega) (Nat.zero_le _) ?_; intro A2 q2 w2 ho2 hq2 hf2 hv2; have O2 := Lib.hid ho2; have F2 := Lib.hid hf2; have V2 := Lib.hid hv2; clear ho2 hf2 hv2)
          go_roundw
          case rel =>
            have hlt := own_lt O2.out
            have sz := F2.out.size
            have szr := HR.out.fr.size
            refine ⟨k + 1, le ++ [(t.rp[k].1, .slice A' t.rp[k].2.length c')], yes, by omega, by go_num, rfl, HR.out.fr.trans F2.out fun q hq hn => by have := HR.out.ln q hn; omega, ?_, fun q hq => ?_, by rw [HE.out.2]; exact HR.out.fd⟩
            · rw [HE.out.1]
              exact HR.out.left.push HRK.out (fun q hq => .inl (HBX.out q hq)) F2.out O2.out (fun q hq => by
                have := (hlt q hq).2
                rcases V2.out q hq with h | h
                · rcases HR.out.left.inr q h with h | h
                  · exact .inl h
                  · exact .inr ⟨h.1, by omega⟩
                · exact .inr ⟨by omega, this⟩) fun q hq => by
                rcases hq with hq | hq
                · exact .inl hq
                · exact .inr ⟨hq.1, by omega⟩
            · rcases V2.out q hq with h | h
              · exact HR.out.ln q h
              · omega
          case measure => simp [intOf]; omega
      · have e : k = t.rp.length := by omega
        subst e
        obtain ⟨Al, cl, hlv, hcl⟩ := own_slice hR.left.row
        subst hlv
        have HR := Lib.hid hR
        have hb1 := H.out.blk.frm' hR.fr
        have z10 := hb1.frozen 10
        have B1 := hb1.set_ 10 (.slice Al le.length cl)
        simp only [List.setIfInBounds_toArray, List.set_cons_succ, List.set_cons_zero] at B1
        have f1 : Frm (isB b) wr (wr.setCell ⟨b, 10, none⟩ (.slice Al le.length cl)) := (Frm.refl (isB b) wr).setCell (a := ⟨b, 10, none⟩) (.inl (show isB b b from rfl)) _
        have B1' := Lib.hid B1
        have F1 := Lib.hid f1
        clear hR hb1 B1 f1 hcl
        go_wp2_with fail
        go_ret3
        have hL := HR.out.left
        rw [List.take_length] at hL
        have hbw : b < w.heap.size := H.out.lt b H.out.gb
        have T1 := (H.out.tk.frm' HR.out.fr).frm F1.out (fun q hq e => H.out.tne ((show q = b from e) ▸ hq)) fun i hi q hq e => H.out.tbne hi ((show q = b from e) ▸ hq)
        have L1 := hL.frm F1.out (fun q hq e => by have := HR.out.ln q hq; have : q = b := e; omega) fun i hi q hq e => (H.out.blk.frm' HR.out.fr).own_ne (hL.box i hi (by have := hL.len; omega)) (by decide) ((show q = b from e) ▸ hq)
        have s1 := F1.out.size
        have sr := HR.out.fr.size
        refine .inr ⟨h1, _, _, fun q => G q ∨ w.heap.size ≤ q ∧ q < wr.heap.size, rfl, ⟨_, _, te, le, B1'.out, T1.mono fun q hq => .inl hq, L1, fun q hq hq' => ?_, .inl H.out.gb, fun q hq => ?_⟩, HR.out.fr.any.trans' F1.out, fun q hq => ?_, HR.out.fd⟩
        · have := H.out.lt q (H.out.tk.inr q hq)
          have := HR.out.ln q hq'
          omega
        · rcases hq with hq | hq
          · have := H.out.lt q hq; omega
          · omega
        · rcases hq with hq | hq
          · exact .inl hq
          · exact .inr ⟨hq.1, by omega⟩
  · rw [decide_eq_false h1] at TH
    have H := Lib.hid h
    clear h hB
    go_enter Try.func41, Try.ntmps41
    go_wp2_with (go_at_call 48; refine (TH.out w _ H.out.blk rfl).mono ?_; rintro e w' ⟨rfl, rfl⟩)
    go_ret3
    exact .inl ⟨h1, rfl, rfl⟩
end
end Go.Proofs.Ytjnoddbhfcpniaa
