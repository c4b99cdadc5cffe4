/-
  EntryPlays: the document's Answer.
-/
import Derived.Test.YtjnoddbhfcpniaaHeldZ
namespace Go.Proofs.Ytjnoddbhfcpniaa
open Go.RowKit
open Go.BigFrame
set_option linter.unusedVariables false
set_option linter.unusedSimpArgs false

section
variable {w : World} {b : Nat} {G : Nat → Prop} {t : RS}
def RAns (w : World) (b : Nat) (t : RS) (G : Nat → Prop) (reps : List (List UInt8)) (e : Ending) (w' : World) : Prop :=
  e = .returned (.int .i64 (ransErr t reps.length)) ∧ ∃ G', EntR w' b (if ransErr t reps.length = 0 then ranswered t reps else t) G' ∧ Frm G w w' ∧ Grow G G' w w'
/-- when k replies are taken -/
def ranK (t : RS) (reps : List (List UInt8)) (k : Nat) : RS := { t with wt := false, rp := ((t.tk.map (·.1)).zip reps).take k }
structure RAn (w wr : World) (b : Nat) (G : Nat → Prop) (t : RS) (reps : List (List UInt8)) (tv rv : Value) (te re : List (Int × Value)) (k : Nat) : Prop where
  fr : Frm (isB b) w wr
  ent : IsR wr b (fun q => G q ∨ w.heap.size ≤ q ∧ q < wr.heap.size) (ranK t reps k) tv rv te re
  rn : ∀ q, oB rv q → w.heap.size ≤ q
  tn : ∀ q, oB tv q → q < w.heap.size
  gb : G b
theorem zip_take_succ {who : List Int} {reps : List (List UInt8)} {k : Nat} (h1 : k < who.length) (h2 : k < reps.length) : (who.zip reps).take (k + 1) = (who.zip reps).take k ++ [(who[k], reps[k])] := by
  rw [List.take_succ_eq_append_getElem (by simp; omega)]
  simp
section
variable {wr w4 w5 w6 : World} {reps : List (List UInt8)} {tv rv rv' u : Value} {te re : List (Int × Value)} {k : Nat}
theorem RAn.step (h : RAn w wr b G t reps tv rv te re k) (hk : k < t.tk.length) (hk2 : k < reps.length) (hlt : b < w.heap.size) (f4 : Frm noB wr w4) (hu : w4.ownsRow wr.heap.size 5 1 u reps[k].length (reps[k].map bv))
    (f5 : Frm (oB rv) w4 w5) (ho : w5.ownsRow 0 92 2 rv' (re.length + 1) (fl re ++ [iv t.tk[k].1, u])) (hv : ∀ q, oB rv' q → oB rv q ∨ w4.heap.size ≤ q) (f6 : Frm (isB b) w5 w6)
    (b6 : Blk w6 b 91 #[.int .i64 t.z1, .int .i64 t.z2, .int .i64 t.clients, .int .i64 t.most, .bool t.op, .bool false, .int .i64 t.kind, .int .u64 t.round, .int .i64 t.til, tv, rv']) :
    RAn w w6 b G t reps tv rv' te (re ++ [(t.tk[k].1, u)]) (k + 1) := by
  have s0 := h.fr.size
  have s4 := f4.size
  have s5 := f5.size
  have s6 := f6.size
  have R := h.ent.rp.snoc (c := t.tk[k].1) (l := reps[k]) (M := fun q => G q ∨ w.heap.size ≤ q ∧ q < w6.heap.size) f4 hu f5 ho hv (fun q hq => by rcases hq with hq | hq; exact .inl hq; exact .inr ⟨hq.1, by omega⟩) fun q h1 h2 => .inr ⟨by omega, by omega⟩
  have nb : ∀ q, oB rv' q → q ≠ b := fun q hq e => by
    subst e
    rcases hv q hq with h' | h'
    · have := h.rn q h'; omega
    · omega
  have R6 := R.frm f6 (fun q hq e => nb q hq e) fun i hi q hq e => by
    have e : q = b := e
    subst e
    by_cases z : i < re.length
    · rw [List.getElem_append_left z] at hq; exact h.ent.rbne z hq
    · have e1 : i = re.length := by simp at hi; omega
      subst e1
      have e2 : (re ++ [(t.tk[k].1, u)])[re.length] = (t.tk[k].1, u) := by simp
      rw [e2] at hq
      have := (own_lt hu q hq).1
      omega
  have T4 := h.ent.tk.frm' f4
  have T5 := T4.frm f5 (fun q hq hq' => h.ent.ap q hq hq') fun i hi q hq => own_own_ne (T4.box i hi (by have := T4.len; omega)) (h.ent.rp.frm' f4).row (by decide) hq
  have T6 := T5.frm f6 (fun q hq e => h.ent.tne ((show q = b from e) ▸ hq)) fun i hi q hq e => h.ent.tbne hi ((show q = b from e) ▸ hq)
  have rn' : ∀ q, oB rv' q → w.heap.size ≤ q := fun q hq => by
    rcases hv q hq with h' | h'
    · exact h.rn q h'
    · omega
  have e : ((t.tk.map (·.1)).zip reps).take (k + 1) = (ranK t reps k).rp ++ [(t.tk[k].1, reps[k])] := by
    rw [zip_take_succ (by simpa using hk) hk2]; simp [ranK]
  refine ⟨((h.fr.trans' f4.any).trans f5 fun q hq hn => by have := h.rn q hn; omega).trans' f6, ⟨b6, T6.mono fun q hq => ?_, ?_, fun q hq hq' => ?_, .inl h.gb, fun q hq => ?_⟩, rn', h.tn, h.gb⟩
  · rcases hq with hq | hq
    · exact .inl hq
    · exact .inr ⟨hq.1, by omega⟩
  · show IsTk w6 _ rv' _ (((t.tk.map (·.1)).zip reps).take (k + 1))
    rw [e]
    exact R6
  · have := h.tn q hq
    have := rn' q hq'
    omega
  · rcases hq with hq | hq
    · have := h.ent.lt q (.inl hq); omega
    · exact hq.2
end
set_option maxRecDepth 100000 in
set_option maxHeartbeats 400000 in
theorem rans_c (h : EntR w b t G) {B : Nat} (hB : RB t B) (A : Option Addr) (reps : List (List UInt8)) (c : Nat) (hA : RdRows w A reps (fun k => ¬ G k)) (hL : ∀ l ∈ reps, Len l.length) :
    Calls Try.prog 46 #[.pointer (some ⟨b, 0, none⟩), .slice A reps.length c] w (RAns w b t G reps) := by
  have HE := Lib.hid h
  obtain ⟨tv, rv, te, re, h⟩ := h
  have no : ∀ n : Int, ransErr t reps.length = n → n ≠ 0 → RAns w b t G reps (.returned (.int .i64 n)) w := fun n hn h0 => by
    unfold RAns
    rw [hn, if_neg h0]
    exact ⟨rfl, G, HE.out, Frm.refl _ _, Grow.refl _ _ _⟩
  have NO := Lib.hid no
  have hlen : t.tk.length ≤ 256 := by have := hB.lt; have := hB.mo; omega
  obtain ⟨At, ct, rfl, hct⟩ := own_slice h.tk.row
  have hle : te.length = t.tk.length := h.tk.len
  have c5 := h.blk.cell 5
  have c9 := h.blk.cell 9
  simp at c5 c9
  rw [hle] at c9
  clear no
  by_cases h1 : t.wt = true
  · rw [h1] at c5
    by_cases h2 : reps.length = t.tk.length
    · have e0 : ransErr t reps.length = 0 := by unfold ransErr; rw [if_neg (fun q => q h1), if_neg (fun q => q h2)]
      have h2' : ((reps.length : Int) != (t.tk.length : Int)) = false := by simp; omega
      obtain ⟨Ar, cr, rfl, hcr⟩ := own_slice h.rp.row
      have cx := h.blk.cell 10
      have z5 := h.blk.frozen 5
      have zx := h.blk.frozen 10
      simp at cx
      have B2 := (h.blk.set_ 5 (.bool false)).set_ 10 (.slice none 0 0)
      simp only [List.setIfInBounds_toArray, List.set_cons_succ, List.set_cons_zero] at B2
      have f2 : Frm (isB b) w ((w.setCell ⟨b, 5, none⟩ (.bool false)).setCell ⟨b, 10, none⟩ (.slice none 0 0)) := ((Frm.refl (isB b) w).setCell (a := ⟨b, 5, none⟩) (.inl (show isB b b from rfl)) _).setCell (a := ⟨b, 10, none⟩) (.inl (show isB b b from rfl)) _
      have hbw : b < w.heap.size := h.lt b h.gb
      have s2 := f2.size
      have R0 : Hid (RAn w ((w.setCell ⟨b, 5, none⟩ (.bool false)).setCell ⟨b, 10, none⟩ (.slice none 0 0)) b G t reps (.slice At te.length ct) (.slice none 0 0) te [] 0) :=
        Lib.hid ⟨f2, ⟨B2, (h.tk.frm f2 (fun q hq e => h.tne ((show q = b from e) ▸ hq)) (fun i hi q hq e => h.tbne hi ((show q = b from e) ▸ hq))).mono fun q hq => .inl hq, IsTk.nil _ _, fun q hq hq' => by simp [oB, Value.ownBlock] at hq', .inl h.gb, fun q hq => by
          rcases hq with hq | hq
          · have := h.lt q hq; omega
          · exact hq.2⟩, fun q hq => by simp [oB, Value.ownBlock] at hq, fun q hq => h.lt q (h.tk.inr q hq), h.gb⟩
      have H := Lib.hid h
      have HA := Lib.hid hA
      have HL := Lib.hid hL
      have HN := Lib.hid h2
      clear h hA hL h2 B2 f2 s2 NO h1
      go_enter Try.func46, Try.ntmps46
      go_wp2_with fail
      generalize (w.setCell ⟨b, 5, none⟩ (.bool false)).setCell ⟨b, 10, none⟩ (.slice none 0 0) = w2 at *
      clear c5 c9 cx z5 zx
      go_loopw [5] (fun i wr => ∃ (k : Nat) (rv : Value) (re : List (Int × Value)), k ≤ reps.length ∧ i = .int .i64 k ∧ RAn w wr b G t reps (.slice At te.length ct) rv te re k) (fun i _ => reps.length - (intOf i).toNat)
      case atStart => exact ⟨0, _, _, Nat.zero_le _, rfl, R0.out⟩
      case round =>
        obtain ⟨k, rv, re, hk, rfl, hR⟩ := hrel
        by_cases hkl : k < reps.length
        · have hkt : k < t.tk.length := by have := HN.out; omega
          have hT : IsTk wr (fun q => G q ∨ w.heap.size ≤ q ∧ q < wr.heap.size) (.slice At te.length ct) te t.tk := hR.ent.tk
          obtain ⟨g, cg, A', c', e1, hcg, d1, _, _, _, hgo⟩ := hT.cell hkt
          rw [hle] at e1
          injection e1 with e1 e2 e3
          subst e1; subst e3
          obtain ⟨Av, cv, rfl, hcv⟩ := own_slice hR.ent.rp.row
          obtain ⟨br, or', Al, cl, rfl, d3, _, hrl, hNl, hNb⟩ := (HA.out.frm hR.fr fun q hq e => hq (by have : q = b := e; subst this; exact hR.gb)).at (i := k) hkl
          have c9 := hR.ent.blk.cell 9
          have cx := hR.ent.blk.cell 10
          simp at c9 cx
          rw [hle] at c9
          have hre : re.length = k := by have := hR.ent.rp.len; simp [ranK] at this; have := HN.out; omega
          have hre' : re.length ≤ 256 := by have := HN.out; omega
          have HRE := Lib.hid hre
          have HR := Lib.hid hR
          have HRL := Lib.hid hrl
          have hkl2 : Len reps[k].length := HL.out _ (List.getElem_mem hkl)
          have HLK := Lib.hid hkl2
          have brw : br < w.heap.size := by
            obtain ⟨b', o', _, _, e, hc, _⟩ := HA.out.at hkl
            injection e with e
            injection e with e _ _
            subst e
            exact World.block_lt_of_cell? w _ hc
          have gne : g ≠ b := fun e => H.out.tne (by rw [← e]; exact hgo)
          have brne : br ≠ b := fun e => hNb (by rw [e]; exact hR.gb)
          clear hR hT hrl hNl hNb hkl2 R0 hre
          go_upto_region 10 with fail
          have s1 : wr.drew.cell? ⟨b, 9, none⟩ = some (.slice (some ⟨g, 0, none⟩) t.tk.length ct) ∧ wr.drew.cell? ⟨g, k * 2, none⟩ = some (.int .i64 t.tk[k].1) ∧ wr.drew.cell? ⟨br, or' + k, none⟩ = some (.slice Al reps[k].length cl) := ⟨c9, d1, d3⟩
          have s0 : wr.drew.cell? ⟨b, 10, none⟩ = some (.slice Av re.length cv) := cx
          have FD := Lib.hid (Frm.refl noB wr).drew
          have HRD := Lib.hid (HRL.out.drew)
          refine beginZ (fun W => W.cell? ⟨b, 9, none⟩ = some (.slice (some ⟨g, 0, none⟩) t.tk.length ct) ∧ W.cell? ⟨g, k * 2, none⟩ = some (.int .i64 t.tk[k].1) ∧ W.cell? ⟨br, or' + k, none⟩ = some (.slice Al reps[k].length cl)) (fun W => W.cell? ⟨b, 10, none⟩ = some (.slice Av re.length cv)) [20, 23] (by kernel_rfl) ?_
          clear c9 d1 d3 cx
          generalize wr.drew = w3 at *
          refine takeP (i := 0) (.pointer (some ⟨b, 0, none⟩)) rfl (by kernel_rfl) (by kernel_rfl) (by kernel_rfl) (by kernel_rfl) (fun _ _ _ h => h) (Or.inl ⟨by rfl, fun w hw => by go_simp⟩) ⟨s1, .inr s0⟩ ?_
          try simp only [Act.put, List.setIfInBounds_toArray, List.set_cons_zero, List.set_cons_succ]
          refine takeP (i := 1) (.pointer (some ⟨b, 0, none⟩)) rfl (by kernel_rfl) (by kernel_rfl) (by kernel_rfl) (by kernel_rfl) (fun _ _ _ h => h) (Or.inl ⟨by rfl, fun w hw => by go_simp⟩) ⟨s1, .inr s0⟩ ?_
          try simp only [Act.put, List.setIfInBounds_toArray, List.set_cons_zero, List.set_cons_succ]
          refine takeP (i := 2) (.pointer (some ⟨b, 0, none⟩)) rfl (by kernel_rfl) (by kernel_rfl) (by kernel_rfl) (by kernel_rfl) (fun _ _ _ h => h) (Or.inl ⟨by rfl, fun w hw => by go_simp⟩) ⟨s1, .inr s0⟩ ?_
          try simp only [Act.put, List.setIfInBounds_toArray, List.set_cons_zero, List.set_cons_succ]
          refine takeP (i := 3) (.pointer (some ⟨b, 10, none⟩)) rfl (by kernel_rfl) (by kernel_rfl) (by kernel_rfl) (by kernel_rfl) (fun _ _ _ h => h) (Or.inl ⟨by rfl, fun w hw => by go_simp⟩) ⟨s1, .inr s0⟩ ?_
          try simp only [Act.put, List.setIfInBounds_toArray, List.set_cons_zero, List.set_cons_succ]
          refine takeS (i := 4) (.slice Av re.length cv) rfl (by kernel_rfl) (by kernel_rfl) (by kernel_rfl) (by kernel_rfl) (by kernel_rfl) (by kernel_rfl) (fun _ _ _ h => h) (Or.inl ⟨by rfl, fun w hw => by go_simp⟩) ⟨s1, s0⟩ ?_
          try simp only [Act.put, List.setIfInBounds_toArray, List.set_cons_zero, List.set_cons_succ]
          refine takeP (i := 5) (.pointer (some ⟨b, 0, none⟩)) rfl (by kernel_rfl) (by kernel_rfl) (by kernel_rfl) (by kernel_rfl) (fun _ _ _ h => h) (Or.inl ⟨by rfl, fun w hw => by go_simp⟩) ⟨s1, .inr s0⟩ ?_
          try simp only [Act.put, List.setIfInBounds_toArray, List.set_cons_zero, List.set_cons_succ]
          refine takeP (i := 6) (.pointer (some ⟨b, 0, none⟩)) rfl (by kernel_rfl) (by kernel_rfl) (by kernel_rfl) (by kernel_rfl) (fun _ _ _ h => h) (Or.inl ⟨by rfl, fun w hw => by go_simp⟩) ⟨s1, .inr s0⟩ ?_
          try simp only [Act.put, List.setIfInBounds_toArray, List.set_cons_zero, List.set_cons_succ]
          refine takeP (i := 7) (.pointer (some ⟨b, 9, none⟩)) rfl (by kernel_rfl) (by kernel_rfl) (by kernel_rfl) (by kernel_rfl) (fun _ _ _ h => h) (Or.inl ⟨by rfl, fun w hw => by go_simp⟩) ⟨s1, .inr s0⟩ ?_
          try simp only [Act.put, List.setIfInBounds_toArray, List.set_cons_zero, List.set_cons_succ]
          refine takeP (i := 8) (.slice (some ⟨g, 0, none⟩) t.tk.length ct) rfl (by kernel_rfl) (by kernel_rfl) (by kernel_rfl) (by kernel_rfl) (fun _ _ _ h => h) (Or.inl ⟨by rfl, fun w hw => by go_simp⟩) ⟨s1, .inr s0⟩ ?_
          try simp only [Act.put, List.setIfInBounds_toArray, List.set_cons_zero, List.set_cons_succ]
          refine takeP (i := 9) (.int .i64 k) rfl (by kernel_rfl) (by kernel_rfl) (by kernel_rfl) (by kernel_rfl) (fun _ _ _ h => h) (Or.inl ⟨by rfl, fun w hw => by go_simp⟩) ⟨s1, .inr s0⟩ ?_
          try simp only [Act.put, List.setIfInBounds_toArray, List.set_cons_zero, List.set_cons_succ]
          refine takeP (i := 10) (.pointer (some ⟨g, k * 2, none⟩)) rfl (by kernel_rfl) (by kernel_rfl) (by kernel_rfl) (by kernel_rfl) (fun _ _ _ h => h) (Or.inl ⟨by rfl, fun w hw => by go_simp⟩) ⟨s1, .inr s0⟩ ?_
          try simp only [Act.put, List.setIfInBounds_toArray, List.set_cons_zero, List.set_cons_succ]
          refine takeP (i := 11) (.pointer (some ⟨g, k * 2, none⟩)) rfl (by kernel_rfl) (by kernel_rfl) (by kernel_rfl) (by kernel_rfl) (fun _ _ _ h => h) (Or.inl ⟨by rfl, fun w hw => by go_simp⟩) ⟨s1, .inr s0⟩ ?_
          try simp only [Act.put, List.setIfInBounds_toArray, List.set_cons_zero, List.set_cons_succ]
          refine takeP (i := 12) (.int .i64 t.tk[k].1) rfl (by kernel_rfl) (by kernel_rfl) (by kernel_rfl) (by kernel_rfl) (fun _ _ _ h => h) (Or.inl ⟨by rfl, fun w hw => by go_simp⟩) ⟨s1, .inr s0⟩ ?_
          try simp only [Act.put, List.setIfInBounds_toArray, List.set_cons_zero, List.set_cons_succ]
          refine takeP (i := 13) (.slice (some ⟨br, or', none⟩) reps.length c) rfl (by kernel_rfl) (by kernel_rfl) (by kernel_rfl) (by kernel_rfl) (fun _ _ _ h => h) (Or.inl ⟨by rfl, fun w hw => by go_simp⟩) ⟨s1, .inr s0⟩ ?_
          try simp only [Act.put, List.setIfInBounds_toArray, List.set_cons_zero, List.set_cons_succ]
          refine takeP (i := 14) (.int .i64 k) rfl (by kernel_rfl) (by kernel_rfl) (by kernel_rfl) (by kernel_rfl) (fun _ _ _ h => h) (Or.inl ⟨by rfl, fun w hw => by go_simp⟩) ⟨s1, .inr s0⟩ ?_
          try simp only [Act.put, List.setIfInBounds_toArray, List.set_cons_zero, List.set_cons_succ]
          refine takeP (i := 15) (.pointer (some ⟨br, or' + k, none⟩)) rfl (by kernel_rfl) (by kernel_rfl) (by kernel_rfl) (by kernel_rfl) (fun _ _ _ h => h) (Or.inl ⟨by rfl, fun w hw => by go_simp⟩) ⟨s1, .inr s0⟩ ?_
          try simp only [Act.put, List.setIfInBounds_toArray, List.set_cons_zero, List.set_cons_succ]
          refine takeP (i := 16) (.slice Al reps[k].length cl) rfl (by kernel_rfl) (by kernel_rfl) (by kernel_rfl) (by kernel_rfl) (fun _ _ _ h => h) (Or.inl ⟨by rfl, fun w hw => by go_simp⟩) ⟨s1, .inr s0⟩ ?_
          try simp only [Act.put, List.setIfInBounds_toArray, List.set_cons_zero, List.set_cons_succ]
          refine consZ (i := 17) rfl (by kernel_rfl) (fun K hK => ?_)
          go_simp
          refine (copyBytes_any Al reps[k] cl w3 HRD.out HLK.out).mono ?_
          rintro _ w4 ⟨v, rfl, ho, hf⟩
          obtain ⟨A4, q4, rfl, hq4⟩ := own_slice ho
          try dsimp only
          have s14 : w4.cell? ⟨b, 9, none⟩ = some (.slice (some ⟨g, 0, none⟩) t.tk.length ct) ∧ w4.cell? ⟨g, k * 2, none⟩ = some (.int .i64 t.tk[k].1) ∧ w4.cell? ⟨br, or' + k, none⟩ = some (.slice Al reps[k].length cl) := ⟨hf.cell_some s1.1 (fun h => h), hf.cell_some s1.2.1 (fun h => h), hf.cell_some s1.2.2 (fun h => h)⟩
          have s04 : w4.cell? ⟨b, 10, none⟩ = some (.slice Av re.length cv) := hf.cell_some s0 (fun h => h)
          have F4 := Lib.hid (FD.out.trans' hf)
          have O4 : Hid (w4.ownsRow wr.heap.size 5 1 (.slice A4 reps[k].length q4) reps[k].length (reps[k].map bv)) := Lib.hid (own_base ho fun q hq => Nat.le_trans FD.out.size (own_lt ho q hq).1)
          have B4 := Lib.hid (HR.out.ent.blk.frm' F4.out)
          have T4 := Lib.hid (own_frm' HR.out.ent.rp.row F4.out)
          clear s1 s0 ho hf FD
          refine hK.out _ _ ⟨s14, .inr s04⟩ (fun hHeld => ?_)
          clear hK K hHeld
          try simp only [Act.put, List.setIfInBounds_toArray, List.set_cons_zero, List.set_cons_succ]
          refine takeP (i := 18) (.agg #[.int .i64 t.tk[k].1, .slice A4 reps[k].length q4]) rfl (by kernel_rfl) (by kernel_rfl) (by kernel_rfl) (by kernel_rfl) (fun _ _ _ h => h) (Or.inl ⟨by rfl, fun w hw => by go_simp⟩) ⟨s14, .inr s04⟩ ?_
          try simp only [Act.put, List.setIfInBounds_toArray, List.set_cons_zero, List.set_cons_succ]
          refine consZ (i := 19) rfl (by kernel_rfl) (fun K hK => ?_)
          go_simp
          have fb := (Frm.refl noB w4).alloc (.cells #[.int .i64 t.tk[k].1, .slice A4 reps[k].length q4] 92)
          have s15 : (w4.alloc (.cells #[.int .i64 t.tk[k].1, .slice A4 reps[k].length q4] 92)).cell? ⟨b, 9, none⟩ = some (.slice (some ⟨g, 0, none⟩) t.tk.length ct) ∧ (w4.alloc (.cells #[.int .i64 t.tk[k].1, .slice A4 reps[k].length q4] 92)).cell? ⟨g, k * 2, none⟩ = some (.int .i64 t.tk[k].1) ∧ (w4.alloc (.cells #[.int .i64 t.tk[k].1, .slice A4 reps[k].length q4] 92)).cell? ⟨br, or' + k, none⟩ = some (.slice Al reps[k].length cl) := ⟨fb.cell_some s14.1 (fun h => h), fb.cell_some s14.2.1 (fun h => h), fb.cell_some s14.2.2 (fun h => h)⟩
          have s05 : (w4.alloc (.cells #[.int .i64 t.tk[k].1, .slice A4 reps[k].length q4] 92)).cell? ⟨b, 10, none⟩ = some (.slice Av re.length cv) := fb.cell_some s04 (fun h => h)
          refine hK.out _ _ ⟨s15, .inr s05⟩ (fun hHeld => ?_)
          clear hK K hHeld
          try simp only [Act.put, List.setIfInBounds_toArray, List.set_cons_zero, List.set_cons_succ]
          refine consZ (i := 20) rfl (by kernel_rfl) (fun K hK => ?_)
          refine step_app2 infoTk rfl 0 T4.out _ _ rfl rfl rfl rfl rfl (by omega) (by omega) (Nat.zero_le _) ?_
          intro A5 q5 w5 ho5 hq5 hf5 hv5
          have hB5 := B4.out.frm hf5 (B4.out.own_ne T4.out (by decide))
          have g5 : ¬ oB (.slice Av re.length cv) g := HR.out.ent.ap g hgo
          have r5 : ¬ oB (.slice Av re.length cv) br := fun h => by have := HR.out.rn br h; omega
          have c95 := hB5.cell 9
          have c05 := hB5.cell 10
          have z05 := hB5.frozen 10
          simp at c95 c05
          rw [hle] at c95
          have s16 : w5.cell? ⟨b, 9, none⟩ = some (.slice (some ⟨g, 0, none⟩) t.tk.length ct) ∧ w5.cell? ⟨g, k * 2, none⟩ = some (.int .i64 t.tk[k].1) ∧ w5.cell? ⟨br, or' + k, none⟩ = some (.slice Al reps[k].length cl) := ⟨c95, hf5.cell_some s14.2.1 g5, hf5.cell_some s14.2.2 r5⟩
          have B5 := Lib.hid hB5
          have F5 := Lib.hid hf5
          have O5 := Lib.hid ho5
          have V5 := Lib.hid hv5
          clear hB5 hf5 ho5 hv5 g5 r5 s14 s04 s15 s05 fb c95
          refine hK.out _ _ ⟨s16, .inl (by kernel_rfl)⟩ (fun hHeld => ?_)
          clear hK K hHeld
          try simp only [Act.put, List.setIfInBounds_toArray, List.set_cons_zero, List.set_cons_succ]
          refine takeP (i := 21) (.pointer (some ⟨b, 0, none⟩)) rfl (by kernel_rfl) (by kernel_rfl) (by kernel_rfl) (by kernel_rfl) (fun _ _ _ h => h) (Or.inl ⟨by rfl, fun w hw => by go_simp⟩) ⟨s16, .inl (by kernel_rfl)⟩ ?_
          try simp only [Act.put, List.setIfInBounds_toArray, List.set_cons_zero, List.set_cons_succ]
          refine takeP (i := 22) (.pointer (some ⟨b, 10, none⟩)) rfl (by kernel_rfl) (by kernel_rfl) (by kernel_rfl) (by kernel_rfl) (fun _ _ _ h => h) (Or.inl ⟨by rfl, fun w hw => by go_simp⟩) ⟨s16, .inl (by kernel_rfl)⟩ ?_
          try simp only [Act.put, List.setIfInBounds_toArray, List.set_cons_zero, List.set_cons_succ]
          refine consZ (i := 23) rfl (by kernel_rfl) (fun K hK => ?_)
          go_simp
          have B6 := B5.out.set_ 10 (.slice A5 (re.length + 1) q5)
          have f6 : Frm (isB b) w5 (w5.setCell ⟨b, 10, none⟩ (.slice A5 (re.length + 1) q5)) := (Frm.refl (isB b) w5).setCell (a := ⟨b, 10, none⟩) (.inl (show isB b b from rfl)) _
          simp only [List.setIfInBounds_toArray, List.set_cons_succ, List.set_cons_zero] at B6
          have c96 := B6.cell 9
          simp at c96
          rw [hle] at c96
          have s17 : (w5.setCell ⟨b, 10, none⟩ (.slice A5 (re.length + 1) q5)).cell? ⟨b, 9, none⟩ = some (.slice (some ⟨g, 0, none⟩) t.tk.length ct) ∧ (w5.setCell ⟨b, 10, none⟩ (.slice A5 (re.length + 1) q5)).cell? ⟨g, k * 2, none⟩ = some (.int .i64 t.tk[k].1) ∧ (w5.setCell ⟨b, 10, none⟩ (.slice A5 (re.length + 1) q5)).cell? ⟨br, or' + k, none⟩ = some (.slice Al reps[k].length cl) := ⟨c96, f6.cell_some s16.2.1 gne, f6.cell_some s16.2.2 brne⟩
          have hh := Lib.hid (HR.out.step hkt hkl hbw F4.out O4.out F5.out O5.out V5.out f6 B6)
          clear B6 f6 c96
          refine hK.out _ _ ⟨s17, .inl (by kernel_rfl)⟩ (fun hHeld => ?_)
          clear hK K hHeld
          try simp only [Act.put, List.setIfInBounds_toArray, List.set_cons_zero, List.set_cons_succ]
          refine doneZ (by kernel_rfl) ?_ _
          clear s16 s17 c05 z05
          go_wp2_with fail
          go_roundw
          case rel => exact ⟨k + 1, _, _, by omega, by go_num, hh.out⟩
          case measure => simp [intOf]; omega
        · have e : k = reps.length := by omega
          subst e
          have HR := Lib.hid hR
          have eK : ranK t reps reps.length = ranswered t reps := by
            unfold ranK ranswered
            congr 1
            exact List.take_of_length_le (by simp; omega)
          have c5 := HR.out.ent.blk.cell 5
          clear hR R0
          go_wp2_with fail
          go_ret
          refine ⟨by rw [e0]; rfl, _, ?_, HR.out.fr.mono fun q _ e => (show q = b from e) ▸ HR.out.gb, fun q hq => hq⟩
          rw [if_pos e0, ← eK]
          exact ⟨_, _, _, _, HR.out.ent⟩
    · have ha : ransErr t reps.length = 4 := by unfold ransErr; rw [if_neg (fun q => q h1), if_pos h2]
      have h2' : ((reps.length : Int) != (t.tk.length : Int)) = true := by simp; omega
      clear h hA hL h2 h1
      go_enter Try.func46, Try.ntmps46
      go_wp2_with fail
      go_ret
      exact NO.out 4 ha (by decide)
  · have h1' : t.wt = false := by simpa using h1
    rw [h1'] at c5
    have ha : ransErr t reps.length = 251 := by unfold ransErr; rw [if_pos h1]
    clear h hA hL h1
    go_enter Try.func46, Try.ntmps46
    go_wp2_with fail
    go_ret
    exact NO.out 251 ha (by decide)
end
end Go.Proofs.Ytjnoddbhfcpniaa
