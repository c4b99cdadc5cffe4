/-
  EntryPlays: the law's sameBatch.
-/
import Derived.Test.YtjnoddbhfcpniaaSize
import Derived.Test.YtjnoddbhfcpniaaApart2
namespace Go.Proofs.Ytjnoddbhfcpniaa
open Go.RowKit
open Go.BigFrame
set_option linter.unusedVariables false
set_option linter.unusedSimpArgs false

/-- a place of an owned row, written -/
theorem own_put {w : World} {base e n g c i : Nat} {xs : List Value} (h : w.ownsRow base e 1 (.slice (some ⟨g, 0, none⟩) n c) n xs) (hi : i < n) (v : Value) :
    (∃ hx : i < xs.length, w.cell? ⟨g, i, none⟩ = some xs[i]) ∧ w.frozen? ⟨g, i, none⟩ = false ∧ (w.setCell ⟨g, i, none⟩ v).ownsRow base e 1 (.slice (some ⟨g, 0, none⟩) n c) n (xs.set i v) := by
  have hl := h.1
  rcases h.2 with ⟨e1, h0⟩ | ⟨g', cap, cur, e1, hb, hg, hn, hm, hs, ht⟩
  · cases e1
  · injection e1 with e1 e2 e3
    injection e1 with e1
    injection e1 with e1
    subst e1; subst e3
    have hB : Blk w g e cur := hg
    have hx : i < xs.length := by omega
    refine ⟨⟨hx, ?_⟩, hB.frozen i, by simpa using hl, .inr ⟨g, c, cur.setIfInBounds i v, rfl, hb, hB.set_ i v, hn, hm, by simp [hs], ?_⟩⟩
    · rw [hB.cell i, ← List.getElem?_eq_getElem hx, ← ht, List.getElem?_take, if_pos (by omega)]
      simp
    · rw [← ht, Array.toList_setIfInBounds, List.take_set]
theorem OwnRows.bag {w : World} {vs : List Value} {xss : List (List UInt8)} (h : OwnRows w vs xss) : Bag w vs (xss.map List.length) fun _ _ => False :=
  ⟨by simp [h.1], fun i hi hi' => by
    have h' : i < xss.length := by simpa using hi'
    refine ⟨xss[i].map bv, ?_, fun q hq hp => hp.elim⟩
    simpa using h.2.1 i hi h', h.2.2⟩
theorem OwnRows.rd_ {w w' : World} {vs : List Value} {xss : List (List UInt8)} {A : Option Addr} {n c : Nat} (h : OwnRows w vs xss) (hr : w'.ownsRow 0 35 1 (.slice A n c) n vs) (hf : Frm noB w w') : RdRows w' A xss fun _ => True :=
  ⟨vs, Rd.of_own hr, h.1, fun i hi hi' => by
    have ho := own_frm' (h.2.1 i hi' hi) hf
    obtain ⟨A', c', e, hcc⟩ := own_slice ho
    rw [e] at ho
    exact ⟨A', c', e, hcc, Rd.of_own ho, fun _ _ _ => trivial⟩, fun _ _ _ => trivial⟩
theorem own_some {w : World} {base e n c : Nat} {A : Option Addr} {xs : List Value} (h : w.ownsRow base e 1 (.slice A n c) n xs) (hn : 0 < n) : ∃ g, A = some ⟨g, 0, none⟩ := by
  rcases h.2 with ⟨e1, h0⟩ | ⟨g', cap, cur, e1, _⟩
  · omega
  · injection e1 with e1 _ _
    exact ⟨g', e1⟩
set_option maxRecDepth 100000 in
set_option maxHeartbeats 400000 in
theorem sameB_any (w : World) (kind round : Int) (Aw Bw Ax Bx : Option Addr) (cw dw cx dx : Nat) (who : List Int) (boxes : List (List UInt8)) (xs : List Value) {N : Nat → Prop} (h1 : w.ownsRow 0 3 1 (.slice Aw who.length cw) who.length (who.map iv)) (h2 : Rd w Bw (who.map iv))
    (h3 : w.ownsRow 0 35 1 (.slice Ax boxes.length cx) boxes.length xs) (h4 : OwnRows w xs boxes) (h5 : RdRows w Bx boxes N)
    (l1 : who.length ≤ 256) (l2 : boxes.length ≤ 256) (l3 : ∀ l ∈ boxes, l.length ≤ 1100000) :
    Calls Try.prog 38 #[.agg #[.int .i64 kind, .int .u64 round, .slice Aw who.length cw, .slice Ax boxes.length cx], .agg #[.int .i64 kind, .int .u64 round, .slice Bw who.length dw, .slice Bx boxes.length dx]] w fun e w' =>
      e = .returned (.bool true) ∧ Frm (fun k => oB (.slice Aw who.length cw) k ∨ oB (.slice Ax boxes.length cx) k ∨ inV xs k) w w' := by
  have hxl : xs.length = boxes.length := h4.1
  have s1 : (w.alloc (.cells #[.int .i64 kind, .int .u64 round, .slice Aw who.length cw, .slice Ax boxes.length cx] 39)).heap.size = w.heap.size + 1 := by simp
  obtain ⟨w2, hw2⟩ : ∃ w2, w2 = (w.alloc (.cells #[.int .i64 kind, .int .u64 round, .slice Aw who.length cw, .slice Ax boxes.length cx] 39)).alloc (.cells #[.int .i64 kind, .int .u64 round, .slice Bw who.length dw, .slice Bx boxes.length dx] 39) := ⟨_, rfl⟩
  have hf : Frm noB w w2 := by rw [hw2]; exact ((Frm.refl _ _).alloc _).alloc _
  have b1 : Blk w2 w.heap.size 39 #[.int .i64 kind, .int .u64 round, .slice Aw who.length cw, .slice Ax boxes.length cx] := by rw [hw2]; exact (Blk.new _ _ _).alloc _
  have b2 : Blk w2 (w.heap.size + 1) 39 #[.int .i64 kind, .int .u64 round, .slice Bw who.length dw, .slice Bx boxes.length dx] := by rw [hw2, ← s1]; exact Blk.new _ _ _
  have a0 := b1.cell 0
  have a1 := b1.cell 1
  have a2 := b1.cell 2
  have a3 := b1.cell 3
  have d0 := b2.cell 0
  have d1 := b2.cell 1
  have d2 := b2.cell 2
  have d3 := b2.cell 3
  simp at a0 a1 a2 a3 d0 d1 d2 d3
  have Q1 := Lib.hid (sameRef_any w2 kind round Aw Bw Ax Bx cw dw cx dx who boxes ((Rd.of_own h1).frm' hf) (h2.frm' hf) (h4.rd_ (own_frm' h3 hf) hf) (h5.frm' hf) l1 l2 fun l hl => Nat.le_trans (l3 l hl) (by decide))
  have hN : ∀ k, aB Ax k → ¬ inV xs k := fun k ⟨a, ha, hk⟩ ⟨i, hi, hv⟩ => by
    refine own_own_ne (h4.2.1 i hi (by omega)) h3 (by decide) hv ?_
    subst ha; subst hk; rfl
  have Q2 := Lib.hid fun (w' : World) (hf' : Frm noB w2 w') => apart_any Ax xs (boxes.map List.length) cx w' (by have := Rd.of_own (own_frm' h3 (hf.trans' hf')); exact this) hN (h4.bag.frm (hf.trans' hf') fun _ _ h => h) (by omega) fun i hi => by
    have h' : i < boxes.length := by simpa using hi
    simpa using l3 _ (List.getElem_mem h')
  rw [hxl] at Q2
  have HF := Lib.hid hf
  have HB := Lib.hid b1
  have H1 := Lib.hid h1
  have H3 := Lib.hid h3
  have H4 := Lib.hid h4
  have hgw : w.heap.size ≠ w.heap.size + 1 := by omega
  clear b1 b2 h1 h2 h3 h4 h5 l3 s1 hf hN hgw
  go_enter Try.func38, Try.ntmps38
  go_upto_region 1 with fail
  rw [← hw2]
  clear hw2
  go_wp2_with fail
  refine Q1.out.mono ?_
  rintro _ w3 ⟨rfl, hf3⟩
  have b3 := hf3.cell_some a3 (fun h => h)
  have HF3 := Lib.hid hf3
  clear hf3 a0 a1 a2 a3 d0 d1 d2 d3
  try dsimp only
  go_wp2_with fail
  refine (Q2.out w3 HF3.out).mono ?_
  rintro _ w4 ⟨rfl, hf4⟩
  have hgn : ∀ q, q < w.heap.size → q ≠ w.heap.size := fun q h => by omega
  have B4 := Lib.hid ((HB.out.frm' HF3.out).frm hf4 fun ⟨i, hi, hv⟩ => by
    have := (own_lt (H4.out.2.1 i hi (by omega)) _ hv).2; omega)
  have F4 := Lib.hid ((HF.out.trans' HF3.out).any.trans' hf4)
  have O4 := Lib.hid (own_frm H1.out F4.out fun q hq ⟨i, hi, hv⟩ => own_own_ne (H4.out.2.1 i hi (by omega)) H1.out (by decide) hv hq)
  have X4 := Lib.hid (own_frm H3.out F4.out fun q hq ⟨i, hi, hv⟩ => own_own_ne (H4.out.2.1 i hi (by omega)) H3.out (by decide) hv hq)
  clear hf4 b3
  try dsimp only
  go_wp2_with fail
  go_loopw [5] (fun i wr => ∃ (k : Nat) (ys : List Int), k ≤ who.length ∧ i = .int .i64 k ∧ Frm (oB (.slice Aw who.length cw)) w4 wr ∧ wr.ownsRow 0 3 1 (.slice Aw who.length cw) who.length (ys.map iv)) (fun i _ => who.length - (intOf i).toNat)
  case atStart => exact ⟨0, who, Nat.zero_le _, rfl, Frm.refl _ _, O4.out⟩
  case round =>
    obtain ⟨k, ys, hk, rfl, hfr, hown⟩ := hrel
    have B5 := Lib.hid (B4.out.frm hfr fun h => by have := (own_lt H1.out _ h).2; omega)
    have c2 := B5.out.cell 2
    simp at c2
    by_cases hkl : k < who.length
    · obtain ⟨g, rfl⟩ := own_some hown (by omega)
      obtain ⟨⟨hx, d1⟩, d2, d3⟩ := own_put hown hkl (.int .i64 (-7))
      simp only [List.getElem_map, iv] at d1
      have HD := Lib.hid d3
      have HFR := Lib.hid hfr
      clear d3 hfr hown
      go_wp2_with fail
      go_roundw
      case rel =>
        refine ⟨k + 1, ys.set k (-7), by omega, by go_num, HFR.out.setCell (a := ⟨g, k, none⟩) (.inl rfl) _, ?_⟩
        have := HD.out
        rw [show (List.map iv ys).set k (.int .i64 (-7)) = List.map iv (ys.set k (-7)) by rw [List.map_set]; rfl] at this
        exact this
      case measure => simp [intOf]; omega
    · have e : k = who.length := by omega
      subst e
      have F5 := Lib.hid hfr
      have X5 := Lib.hid (own_frm X4.out hfr fun q hq hq' => own_own_ne X4.out O4.out (by decide) hq hq')
      clear hfr hown
      go_wp2_with fail
      have sl : ∀ y ∈ xs, ∃ A m c, y = Value.slice A m c := fun y hy => by
        obtain ⟨i, hi, rfl⟩ := List.getElem_of_mem hy
        obtain ⟨A', c', e, _⟩ := own_slice (H4.out.2.1 i hi (by omega))
        exact ⟨A', _, c', e⟩
      have SL := Lib.hid sl
      clear sl
      go_loopw [6] (fun i wq => ∃ (k : Nat) (ys : List Value), k ≤ boxes.length ∧ i = .int .i64 k ∧ Frm (oB (.slice Ax boxes.length cx)) wr wq ∧ wq.ownsRow 0 35 1 (.slice Ax boxes.length cx) boxes.length ys ∧ ∀ y ∈ ys, ∃ A m c, y = Value.slice A m c) (fun i _ => boxes.length - (intOf i).toNat)
      case atStart => exact ⟨0, xs, Nat.zero_le _, rfl, Frm.refl _ _, X5.out, SL.out⟩
      case round =>
        obtain ⟨k, ys, hk, rfl, hfr, hown, hys⟩ := hrel
        have B6 := Lib.hid (B5.out.frm hfr fun h => by have := (own_lt H3.out _ h).2; omega)
        have c3 := B6.out.cell 3
        simp at c3
        by_cases hkl : k < boxes.length
        · obtain ⟨g, rfl⟩ := own_some hown (by omega)
          have fa := (Frm.refl noB wr).alloc (.cells #[.int .u8 99] 5)
          obtain ⟨⟨hx, d1⟩, d2, d3⟩ := own_put (own_frm' hown fa) hkl (.slice (some ⟨wr.heap.size, 0, none⟩) 1 1)
          obtain ⟨Ao, mo, co, eo⟩ := hys _ (List.getElem_mem hx)
          rw [eo] at d1
          have HD := Lib.hid d3
          have HFR := Lib.hid hfr
          have HFA := Lib.hid fa
          have HYS := Lib.hid hys
          clear d3 hfr hown fa hys eo
          go_wp2_with fail
          go_roundw
          case rel =>
            refine ⟨k + 1, ys.set k (.slice (some ⟨wr.heap.size, 0, none⟩) 1 1), by omega, by go_num, (HFR.out.trans' HFA.out.any).setCell (a := ⟨g, k, none⟩) (.inl rfl) _, HD.out, fun y hy => ?_⟩
            rcases List.mem_or_eq_of_mem_set hy with hy | hy
            · exact HYS.out y hy
            · exact ⟨_, _, _, hy⟩
          case measure => simp [intOf]; omega
        · have e : k = boxes.length := by omega
          subst e
          have F6 := Lib.hid hfr
          clear hfr hown hys
          go_wp2_with fail
          go_ret
          exact ⟨rfl, ((F4.out.mono fun q _ h => .inr (.inr h)).trans' (F5.out.mono fun q _ h => .inl h)).trans' (F6.out.mono fun q _ h => .inr (.inl h))⟩
end Go.Proofs.Ytjnoddbhfcpniaa
