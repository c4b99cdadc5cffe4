/-
  trystref03.Round: the words behind a block.
-/
import Derived.Test.YtkhakddecmgejaaDoorStoreRow
import Derived.Deep.DeepCutAuto
namespace Go.Proofs.YtkhakddecmgejaaDoor
open Go.RowKit
set_option linter.unusedVariables false
set_option linter.unusedSimpArgs false

theorem stepP_two (s : S8) (k v : UInt32) : s.h + (rotr s.e 6 ^^^ rotr s.e 11 ^^^ rotr s.e 25) + ((s.e &&& s.f) ^^^ (~~~s.e &&& s.g)) + k + v = stepP s (k + v) := by
  unfold stepP; rw [UInt32.add_assoc _ k v]
theorem S8.get_of (st : Nat → UInt32) : ∀ j, j < 8 → (S8.of st).get j = st j
  | 0, _ => rfl
  | 1, _ => rfl
  | 2, _ => rfl
  | 3, _ => rfl
  | 4, _ => rfl
  | 5, _ => rfl
  | 6, _ => rfl
  | 7, _ => rfl
theorem S8.of_get (s : S8) : S8.of s.get = s := rfl

set_option maxRecDepth 100000 in
set_option maxHeartbeats 8000000 in
theorem rround_any (w : World) (s : S8) (A : Option Addr) (xs : List UInt8) (c i a : Nat) (hx : Rd w A (xs.map bv)) (ha : a = 64 * i) (hi : 64 * i + 64 ≤ xs.length) (hl : HLen xs.length) :
    Calls Tryd.prog 63 #[s.val, .slice A xs.length c, .int .i64 a] w fun e w' => e = .returned (S8.of (comp s.get (blk xs i))).val ∧ Frm noB w w' := by
  unfold HLen at hl
  have HX := Lib.hid hx
  have HA := Lib.hid ha
  have hal : a + 64 ≤ xs.length := by omega
  clear hx ha
  show Calls _ _ #[.agg #[.int .u32 (u s.a), .int .u32 (u s.b), .int .u32 (u s.c), .int .u32 (u s.d), .int .u32 (u s.e), .int .u32 (u s.f), .int .u32 (u s.g), .int .u32 (u s.h)], .slice A xs.length c, .int .i64 a] _ _
  go_enter Tryd.func63, Tryd.ntmps63
  go_upto_region 2 with fail
  have h3 : Blk (((w.alloc (.cells (arr 8 (ws s.get)) 92)).alloc (.cells (arr 8 (ws fun _ => 0)) 92)).alloc (.cells (arr 64 (ws fun _ => 0)) 105)) w.heap.size 92 (arr 8 (ws s.get)) := ((Blk.new w _ _).alloc _).alloc _
  have h6 : Blk (((w.alloc (.cells (arr 8 (ws s.get)) 92)).alloc (.cells (arr 8 (ws fun _ => 0)) 92)).alloc (.cells (arr 64 (ws fun _ => 0)) 105)) (w.heap.size + 1) 92 (arr 8 (ws fun _ => 0)) := by
    have := (Blk.new (w.alloc (.cells (arr 8 (ws s.get)) 92)) 92 (arr 8 (ws fun _ => 0))).alloc (.cells (arr 64 (ws fun _ => 0)) 105)
    rwa [show (w.alloc (.cells (arr 8 (ws s.get)) 92)).heap.size = w.heap.size + 1 by simp] at this
  have h7 : Blk (((w.alloc (.cells (arr 8 (ws s.get)) 92)).alloc (.cells (arr 8 (ws fun _ => 0)) 92)).alloc (.cells (arr 64 (ws fun _ => 0)) 105)) (w.heap.size + 1 + 1) 105 (arr 64 (ws fun _ => 0)) := by
    have := Blk.new ((w.alloc (.cells (arr 8 (ws s.get)) 92)).alloc (.cells (arr 8 (ws fun _ => 0)) 92)) 105 (arr 64 (ws fun _ => 0))
    rwa [show ((w.alloc (.cells (arr 8 (ws s.get)) 92)).alloc (.cells (arr 8 (ws fun _ => 0)) 92)).heap.size = w.heap.size + 1 + 1 by simp] at this
  have hf0 : Frm noB w (((w.alloc (.cells (arr 8 (ws s.get)) 92)).alloc (.cells (arr 8 (ws fun _ => 0)) 92)).alloc (.cells (arr 64 (ws fun _ => 0)) 105)) := (((Frm.refl _ _).alloc _).alloc _).alloc _
  change Code.wp _ _ _ _ (((w.alloc (.cells (arr 8 (ws s.get)) 92)).alloc (.cells (arr 8 (ws fun _ => 0)) 92)).alloc (.cells (arr 64 (ws fun _ => 0)) 105))
  generalize ((w.alloc (.cells (arr 8 (ws s.get)) 92)).alloc (.cells (arr 8 (ws fun _ => 0)) 92)).alloc (.cells (arr 64 (ws fun _ => 0)) 105) = w0 at *
  have H3 := Lib.hid h3
  have H6 := Lib.hid h6
  have H7 := Lib.hid h7
  have HF0 := Lib.hid hf0
  have hs0 : w.heap.size + 1 + 1 < w0.heap.size := h7.lt
  clear h3 h6 h7 hf0
  go_wp2_with fail
  go_loopw [8] (fun v wr => ∃ (k : Nat) (f : Nat → UInt32), k ≤ 16 ∧ v = .int .i64 k ∧ Blk wr (w.heap.size + 1 + 1) 105 (arr 64 (ws f)) ∧ (∀ j, j < k → f j = wd (blk xs i) j) ∧ Frm (isB (w.heap.size + 1 + 1)) w0 wr) (fun v _ => 16 - (intOf v).toNat)
  case atStart => exact ⟨0, _, by omega, rfl, H7.out, fun j h => absurd h (by omega), Frm.refl _ _⟩
  case round =>
    clear H7
    obtain ⟨k, f, hk, rfl, hB, hf', hF⟩ := hrel
    have HB := Lib.hid hB
    have HF := Lib.hid hF
    have Hf := Lib.hid hf'
    clear hB hF hf'
    by_cases hlt : k < 16
    · have g0 := HB.out.atw (i := k) (by omega)
      have g1 := HB.out.frozen k
      have HFw : Hid (Frm noB w wr) := Lib.hid (HF0.out.trans HF.out fun q hq h => by have h : q = w.heap.size + 1 + 1 := h; omega)
      have HRD := Lib.hid (HX.out.frm' HFw.out)
      go_wp2_with fail
      refine (word_any wr A xs c (a + 4 * k) _ (by omega) HRD.out (by omega) hl).mono ?_
      rintro _ _ ⟨rfl, d, rfl⟩
      have hwd : wordAt xs (a + 4 * k) = wd (blk xs i) k := by rw [HA.out]; exact wordAt_blk xs i k
      rw [hwd]
      have g0' : (wr.drewN d).cell? ⟨w.heap.size + 1 + 1, k, none⟩ = some (.int .u32 (u (f k))) := g0
      have g1' : (wr.drewN d).frozen? ⟨w.heap.size + 1 + 1, k, none⟩ = false := g1
      clear g0 g1 hwd
      try dsimp only
      go_wp2_with fail
      refine ⟨⟨k + 1, fun j => if j = k then wd (blk xs i) k else f j, by omega, by go_num, (HB.out.drewN d).putw k _, fun j hj => ?_, (HF.out.drewN d).setCell (.inl (show isB (w.heap.size + 1 + 1) (w.heap.size + 1 + 1) from rfl)) _⟩, by simp [intOf]; omega⟩
      show (if j = k then wd (blk xs i) k else f j) = _
      by_cases e : j = k
      · rw [if_pos e, e]
      · rw [if_neg e]; exact Hf.out j (by omega)
    · have e : k = 16 := by omega
      subst e
      rw [show ((16 : Nat) : Int) = 16 from rfl]
      have HS : Hid (IsSched (blk xs i) f 16) := Lib.hid ⟨Hf.out, fun j h h' => absurd h (by omega)⟩
      clear Hf hk
      go_wp2_with fail
      go_loopw [9] (fun v wr => ∃ (k : Nat) (f : Nat → UInt32), 16 ≤ k ∧ k ≤ 64 ∧ v = .int .i64 k ∧ Blk wr (w.heap.size + 1 + 1) 105 (arr 64 (ws f)) ∧ IsSched (blk xs i) f k ∧ Frm (isB (w.heap.size + 1 + 1)) w0 wr) (fun v _ => 64 - (intOf v).toNat)
      case atStart => exact ⟨16, f, by omega, by omega, rfl, HB.out, HS.out, HF.out⟩
      case round =>
        clear HB HF HS
        obtain ⟨k, f, hk0, hk, rfl, hB, hf', hF⟩ := hrel
        obtain ⟨wq, rfl⟩ : ∃ wq : World, wq = wr := ⟨_, rfl⟩
        have HB := Lib.hid hB
        have HF := Lib.hid hF
        have HS := Lib.hid hf'
        clear hB hF hf'
        by_cases hlt : k < 64
        · have s16 : IntKind.i64.wrap ((k : Int) - 16) = (k : Int) - 16 := IntWalk.i64_in _ (by omega)
          have s7 : IntKind.i64.wrap ((k : Int) - 7) = (k : Int) - 7 := IntWalk.i64_in _ (by omega)
          have n16 : ((k : Int) - 16).toNat = k - 16 := by omega
          have n7 : ((k : Int) - 7).toNat = k - 7 := by omega
          have o15 : 0 ≤ (k : Int) - 15 ∧ (k : Int) - 15 < 64 := by omega
          have o2 : 0 ≤ (k : Int) - 2 ∧ (k : Int) - 2 < 64 := by omega
          have o16 : 0 ≤ (k : Int) - 16 ∧ (k : Int) - 16 < 64 := by omega
          have o7 : 0 ≤ (k : Int) - 7 ∧ (k : Int) - 7 < 64 := by omega
          have ok : (k : Int) < 64 := by omega
          have c15 := HB.out.atw (i := k - 15) (by omega)
          have c2 := HB.out.atw (i := k - 2) (by omega)
          have hx := u_xor
          have h3 := u_xor8
          have h10 := u_xor1024
          go_wp2_with fail
          refine (rt_ _ 7 (by decide) _ rfl _).mono ?_
          rintro _ _ ⟨rfl, d1, rfl⟩
          try dsimp only
          go_wp2_with fail
          refine (rt_ _ 18 (by decide) _ rfl _).mono ?_
          rintro _ _ ⟨rfl, d2, rfl⟩
          try dsimp only
          go_wp2_with fail
          refine (rt_ _ 17 (by decide) _ rfl _).mono ?_
          rintro _ _ ⟨rfl, d3, rfl⟩
          try dsimp only
          go_wp2_with fail
          refine (rt_ _ 19 (by decide) _ rfl _).mono ?_
          rintro _ _ ⟨rfl, d4, rfl⟩
          try dsimp only
          have c16 := HB.out.atw (i := k - 16) (by omega)
          have c7 := HB.out.atw (i := k - 7) (by omega)
          have g0 := HB.out.atw (i := k) (by omega)
          have g1 := HB.out.frozen k
          have hs := u_add
          clear c15 c2
          go_wp2_with fail

          go_region
          go_wp2_with fail
          clear c16 c7 g0 g1 hx h3 h10 hs s16 s7 n16 n7
          go_roundw
          case rel =>
            refine ⟨k + 1, fun j => if j = k then nxt f k else f j, by omega, by omega, by go_num, ?_, HS.out.put hk0, ?_⟩
            · exact (HB.out.drewN (d1 + d2 + d3 + d4 + 1)).putw k (nxt f k)
            · exact (HF.out.drewN (d1 + d2 + d3 + d4 + 1)).setCell (.inl (show isB (w.heap.size + 1 + 1) (w.heap.size + 1 + 1) from rfl)) _
          case measure => simp [intOf]; omega
        · have e : k = 64 := by omega
          subst e
          rw [show ((64 : Nat) : Int) = 64 from rfl]
          have SCH := Lib.hid HS.out.eq
          have HFw : Hid (Frm noB w wq) := Lib.hid (HF0.out.trans HF.out fun q hq h => by have h : q = w.heap.size + 1 + 1 := h; omega)
          have h3q := H3.out.frm HF.out (fun h => by have h : w.heap.size = w.heap.size + 1 + 1 := h; omega)
          have h6q := H6.out.frm HF.out (fun h => by have h : w.heap.size + 1 = w.heap.size + 1 + 1 := h; omega)
          have H3q := Lib.hid h3q
          have H6q := Lib.hid h6q
          have hsq : w.heap.size + 1 + 1 < wq.heap.size := HB.out.lt
          clear hk0 hk HS h3q h6q H3 H6
          go_wp2_with fail
          refine (keys_any wq).mono ?_
          rintro _ w2 ⟨rfl, hf2⟩
          obtain ⟨w4, hrun, hb4, hf4⟩ := run_storeRow (P := Tryd.prog) (w := w2.alloc (.cells #[.int .u32 0, .int .u32 0, .int .u32 0, .int .u32 0, .int .u32 0, .int .u32 0, .int .u32 0, .int .u32 0, .int .u32 0, .int .u32 0, .int .u32 0, .int .u32 0, .int .u32 0, .int .u32 0, .int .u32 0, .int .u32 0, .int .u32 0, .int .u32 0, .int .u32 0, .int .u32 0, .int .u32 0, .int .u32 0, .int .u32 0, .int .u32 0, .int .u32 0, .int .u32 0, .int .u32 0, .int .u32 0, .int .u32 0, .int .u32 0, .int .u32 0, .int .u32 0, .int .u32 0, .int .u32 0, .int .u32 0, .int .u32 0, .int .u32 0, .int .u32 0, .int .u32 0, .int .u32 0, .int .u32 0, .int .u32 0, .int .u32 0, .int .u32 0, .int .u32 0, .int .u32 0, .int .u32 0, .int .u32 0, .int .u32 0, .int .u32 0, .int .u32 0, .int .u32 0, .int .u32 0, .int .u32 0, .int .u32 0, .int .u32 0, .int .u32 0, .int .u32 0, .int .u32 0, .int .u32 0, .int .u32 0, .int .u32 0, .int .u32 0, .int .u32 0] 105)) (Blk.new _ _ _) (cs := arr 64 (ws kw)) (by rw [arr_size]; rfl) (one_arr fun i _ => rfl)
          have HF4 : Hid (Frm noB wq w4) := Lib.hid (hf2.trans' (((Frm.refl noB w2).alloc (.cells #[.int .u32 0, .int .u32 0, .int .u32 0, .int .u32 0, .int .u32 0, .int .u32 0, .int .u32 0, .int .u32 0, .int .u32 0, .int .u32 0, .int .u32 0, .int .u32 0, .int .u32 0, .int .u32 0, .int .u32 0, .int .u32 0, .int .u32 0, .int .u32 0, .int .u32 0, .int .u32 0, .int .u32 0, .int .u32 0, .int .u32 0, .int .u32 0, .int .u32 0, .int .u32 0, .int .u32 0, .int .u32 0, .int .u32 0, .int .u32 0, .int .u32 0, .int .u32 0, .int .u32 0, .int .u32 0, .int .u32 0, .int .u32 0, .int .u32 0, .int .u32 0, .int .u32 0, .int .u32 0, .int .u32 0, .int .u32 0, .int .u32 0, .int .u32 0, .int .u32 0, .int .u32 0, .int .u32 0, .int .u32 0, .int .u32 0, .int .u32 0, .int .u32 0, .int .u32 0, .int .u32 0, .int .u32 0, .int .u32 0, .int .u32 0, .int .u32 0, .int .u32 0, .int .u32 0, .int .u32 0, .int .u32 0, .int .u32 0, .int .u32 0, .int .u32 0] 105)).trans hf4 fun k hk h => by have h : k = w2.heap.size := h; omega))
          have HK4 := Lib.hid hb4
          have hs2 := hf2.size
          have hs4 : w2.heap.size < w4.heap.size := hb4.lt
          have HB4 := Lib.hid (HB.out.frm' HF4.out)
          have H34 := Lib.hid (H3q.out.frm' HF4.out)
          have H64 := Lib.hid (H6q.out.frm' HF4.out)
          have HFw4 := Lib.hid (HFw.out.trans' HF4.out)
          have d0 : w4.cell? ⟨w.heap.size, 0, none⟩ = some (.int .u32 (u s.a)) := H34.out.atw (by decide)
          have d1 : w4.cell? ⟨w.heap.size, 1, none⟩ = some (.int .u32 (u s.b)) := H34.out.atw (by decide)
          have d2 : w4.cell? ⟨w.heap.size, 2, none⟩ = some (.int .u32 (u s.c)) := H34.out.atw (by decide)
          have d3 : w4.cell? ⟨w.heap.size, 3, none⟩ = some (.int .u32 (u s.d)) := H34.out.atw (by decide)
          have d4 : w4.cell? ⟨w.heap.size, 4, none⟩ = some (.int .u32 (u s.e)) := H34.out.atw (by decide)
          have d5 : w4.cell? ⟨w.heap.size, 5, none⟩ = some (.int .u32 (u s.f)) := H34.out.atw (by decide)
          have d6 : w4.cell? ⟨w.heap.size, 6, none⟩ = some (.int .u32 (u s.g)) := H34.out.atw (by decide)
          have d7 : w4.cell? ⟨w.heap.size, 7, none⟩ = some (.int .u32 (u s.h)) := H34.out.atw (by decide)
          clear hf2 hb4 hf4 HB HF HFw H3q H6q HF4
          try dsimp only
          go_wp2_with fail
          have hgv : Blk (w4.alloc (.cells (arr 8 (ws s.get)) 92)) w4.heap.size 92 (arr 8 (ws s.get)) := Blk.new _ _ _
          have hfv : Frm noB w4 (w4.alloc (.cells (arr 8 (ws s.get)) 92)) := (Frm.refl _ _).alloc _
          change Code.wp _ _ _ _ (w4.alloc (.cells (arr 8 (ws s.get)) 92))
          generalize w4.alloc (.cells (arr 8 (ws s.get)) 92) = w5 at *
          have HGV := Lib.hid hgv
          have HFV := Lib.hid hfv
          have HK5 := Lib.hid (HK4.out.frm' hfv)
          have HB5 := Lib.hid (HB4.out.frm' hfv)
          have H35 := Lib.hid (H34.out.frm' hfv)
          have H65 := Lib.hid (H64.out.frm' hfv)
          have HFw5 := Lib.hid (HFw4.out.trans' hfv)
          clear hgv hfv d0 d1 d2 d3 d4 d5 d6 d7 HK4 HB4 H34 H64 HFw4 HFV
          go_loopw [16] (fun v wr => ∃ (k : Nat) (q : S8), k ≤ 64 ∧ v = .int .i64 k ∧ q = steps (blk xs i) s k ∧ Blk wr w4.heap.size 92 (arr 8 (ws q.get)) ∧ Frm (isB w4.heap.size) w5 wr) (fun v _ => 64 - (intOf v).toNat)
          case atStart => exact ⟨0, s, by omega, rfl, rfl, HGV.out, Frm.refl _ _⟩
          case round =>
            clear HGV
            obtain ⟨k, q, hk, rfl, hq, hB2, hF⟩ := hrel
            obtain ⟨wp, rfl⟩ : ∃ wp : World, wp = wr := ⟨_, rfl⟩
            have HQ := Lib.hid hq
            have HB2 := Lib.hid hB2
            have HF := Lib.hid hF
            clear hq hB2 hF
            by_cases hlt : k < 64
            · have dk := (HK5.out.frm HF.out (fun h => by have h : w2.heap.size = w4.heap.size := h; omega)).atw (i := k) hlt
              have dw := (HB5.out.frm HF.out (fun h => by have h : w.heap.size + 1 + 1 = w4.heap.size := h; omega)).atw (i := k) hlt
              have d0 : wp.cell? ⟨w4.heap.size, 0, none⟩ = some (.int .u32 (u q.a)) := HB2.out.atw (by decide)
              have d1 : wp.cell? ⟨w4.heap.size, 1, none⟩ = some (.int .u32 (u q.b)) := HB2.out.atw (by decide)
              have d2 : wp.cell? ⟨w4.heap.size, 2, none⟩ = some (.int .u32 (u q.c)) := HB2.out.atw (by decide)
              have d3 : wp.cell? ⟨w4.heap.size, 3, none⟩ = some (.int .u32 (u q.d)) := HB2.out.atw (by decide)
              have d4 : wp.cell? ⟨w4.heap.size, 4, none⟩ = some (.int .u32 (u q.e)) := HB2.out.atw (by decide)
              have d5 : wp.cell? ⟨w4.heap.size, 5, none⟩ = some (.int .u32 (u q.f)) := HB2.out.atw (by decide)
              have d6 : wp.cell? ⟨w4.heap.size, 6, none⟩ = some (.int .u32 (u q.g)) := HB2.out.atw (by decide)
              have d7 : wp.cell? ⟨w4.heap.size, 7, none⟩ = some (.int .u32 (u q.h)) := HB2.out.atw (by decide)
              have ok : (k : Int) < 64 := by omega
              have hs := u_add
              have hsm := u_add_mod
              have hx := u_xor
              have ha := u_and
              have hn := u_not'
              have hsg : IntKind.u32.signed = false := rfl
              go_wp2_with fail
              go_quiet (fail)
              go_wp2_with fail
              obtain ⟨wz, hwz⟩ : ∃ wz, wz = wp.drewN nq := ⟨_, rfl⟩
              have e0 : wz.cell? ⟨w4.heap.size, 0, none⟩ = some (.int .u32 (u q.a)) := by rw [hwz]; exact d0
              have e1 : wz.cell? ⟨w4.heap.size, 1, none⟩ = some (.int .u32 (u q.b)) := by rw [hwz]; exact d1
              have e2 : wz.cell? ⟨w4.heap.size, 2, none⟩ = some (.int .u32 (u q.c)) := by rw [hwz]; exact d2
              have e3 : wz.cell? ⟨w4.heap.size, 3, none⟩ = some (.int .u32 (u q.d)) := by rw [hwz]; exact d3
              have e4 : wz.cell? ⟨w4.heap.size, 4, none⟩ = some (.int .u32 (u q.e)) := by rw [hwz]; exact d4
              have e5 : wz.cell? ⟨w4.heap.size, 5, none⟩ = some (.int .u32 (u q.f)) := by rw [hwz]; exact d5
              have e6 : wz.cell? ⟨w4.heap.size, 6, none⟩ = some (.int .u32 (u q.g)) := by rw [hwz]; exact d6
              have e7 : wz.cell? ⟨w4.heap.size, 7, none⟩ = some (.int .u32 (u q.h)) := by rw [hwz]; exact d7
              have ek : wz.cell? ⟨w2.heap.size, k, none⟩ = some (.int .u32 (u (kw k))) := by rw [hwz]; exact dk
              have ew : wz.cell? ⟨w.heap.size + 1 + 1, k, none⟩ = some (.int .u32 (u (f k))) := by rw [hwz]; exact dw
              have HB2z : Hid (Blk wz w4.heap.size 92 (arr 8 (ws q.get))) := Lib.hid (by rw [hwz]; exact HB2.out.drewN nq)
              have HFz : Hid (Frm (isB w4.heap.size) w5 wz) := Lib.hid (by rw [hwz]; exact HF.out.drewN nq)
              rw [← hwz]
              clear hwz d0 d1 d2 d3 d4 d5 d6 d7 dk dw HB2 HF
              go_quiet ((go_at_call 72; refine Calls.quiet_of (rt_any _ _ (by omega) _)))
              rw [stepP_two]
              go_wp2_with fail
              refine (rt_ _ 2 (by decide) _ rfl _).mono ?_
              rintro _ _ ⟨rfl, m1, rfl⟩
              try dsimp only
              go_wp2_with fail
              refine (rt_ _ 13 (by decide) _ rfl _).mono ?_
              rintro _ _ ⟨rfl, m2, rfl⟩
              try dsimp only
              go_wp2_with fail
              refine (rt_ _ 22 (by decide) _ rfl _).mono ?_
              rintro _ _ ⟨rfl, m3, rfl⟩
              have z0 := HB2z.out.frozen 0
              have z1 := HB2z.out.frozen 1
              have z2 := HB2z.out.frozen 2
              have z3 := HB2z.out.frozen 3
              have z4 := HB2z.out.frozen 4
              have z5 := HB2z.out.frozen 5
              have z6 := HB2z.out.frozen 6
              have z7 := HB2z.out.frozen 7
              try dsimp only
              go_wp2_with fail
              have HQ2 : Hid (stp q (kw k + f k) = steps (blk xs i) s (k + 1)) := Lib.hid (by rw [SCH.out k hlt, HQ.out]; rfl)
              refine ⟨⟨k + 1, stp q (kw k + f k), by omega, by go_num, HQ2.out, (HB2z.out.drewN _).put8 (stp q (kw k + f k)), ?_⟩, by simp [intOf]; omega⟩
              repeat (refine Frm.setCell ?_ (.inl (show isB w4.heap.size w4.heap.size from rfl)) _)
              exact HFz.out.drewN _
            · have e : k = 64 := by omega
              subst e
              rw [show ((64 : Nat) : Int) = 64 from rfl]
              have HV : Hid (∀ j, comp s.get (blk xs i) j = s.get j + q.get j) := Lib.hid fun j => by rw [comp, S8.of_get, ← HQ.out]
              have H3p := Lib.hid (H35.out.frm HF.out (fun h => by have h : w.heap.size = w4.heap.size := h; omega))
              have H6p := Lib.hid (H65.out.frm HF.out (fun h => by have h : w.heap.size + 1 = w4.heap.size := h; omega))
              have HFp : Hid (Frm noB w wp) := Lib.hid (HFw5.out.trans HF.out fun x hx h => by have h : x = w4.heap.size := h; omega)
              clear HQ hk HF H35 H65 HK5 HB5 HFw5
              go_wp2_with fail
              go_loopw [25] (fun v wr => ∃ (k : Nat) (st' : Nat → UInt32), k ≤ 8 ∧ v = .int .i64 k ∧ Blk wr w.heap.size 92 (arr 8 (ws st')) ∧ (∀ j, j < k → st' j = comp s.get (blk xs i) j) ∧ (∀ j, k ≤ j → st' j = s.get j) ∧ Frm (isB w.heap.size) wp wr) (fun v _ => 8 - (intOf v).toNat)
              case atStart => exact ⟨0, s.get, by omega, rfl, H3p.out, fun j h => absurd h (by omega), fun j _ => rfl, Frm.refl _ _⟩
              case round =>
                clear H3p
                obtain ⟨k, st', hk, rfl, hB, h1, h2, hF⟩ := hrel
                obtain ⟨wo, rfl⟩ : ∃ wo : World, wo = wr := ⟨_, rfl⟩
                have HB := Lib.hid hB
                have H1 := Lib.hid h1
                have H2 := Lib.hid h2
                have HF := Lib.hid hF
                clear hB h1 h2 hF
                by_cases hlt : k < 8
                · have d0 := HB.out.atw (i := k) hlt
                  have d1 := HB.out.frozen k
                  have d2 := (HB2.out.frm HF.out (fun h => by have h : w4.heap.size = w.heap.size := h; omega)).atw (i := k) hlt
                  have ok : (k : Int) < 8 := by omega
                  have hs := u_add
                  go_wp2_with fail
                  go_region
                  go_wp2_with fail
                  clear d0 d1 d2 hs
                  refine ⟨⟨k + 1, fun j => if j = k then st' k + q.get k else st' j, by omega, by go_num, (HB.out.putw k (st' k + q.get k)).drew, fun j hj => ?_, fun j hj => ?_, (HF.out.setCell (.inl (show isB w.heap.size w.heap.size from rfl)) _).drew⟩, by simp [intOf]; omega⟩
                  · show (if j = k then st' k + q.get k else st' j) = _
                    by_cases e : j = k
                    · rw [if_pos e, H2.out k (Nat.le_refl _), e, HV.out]
                    · rw [if_neg e]; exact H1.out j (by omega)
                  · show (if j = k then st' k + q.get k else st' j) = _
                    rw [if_neg (by omega)]; exact H2.out j (by omega)
                · have e : k = 8 := by omega
                  subst e
                  have hb8 : Blk wo w.heap.size 92 (arr 8 (ws (S8.of (comp s.get (blk xs i))).get)) := HB.out.same fun j hj => by
                    show uv (st' j) = uv _
                    rw [H1.out j hj, S8.get_of _ j hj]
                  have h6o := H6p.out.frm HF.out (fun h => by have h : w.heap.size + 1 = w.heap.size := h; omega)
                  have HFo : Hid (Frm noB w wo) := Lib.hid (HFp.out.trans HF.out fun x hx h => by have h : x = w.heap.size := h; omega)
                  generalize hr : S8.of (comp s.get (blk xs i)) = r at *
                  have HR := Lib.hid hr
                  have HB8 := Lib.hid hb8
                  clear hr
                  obtain ⟨wz, hrun, hz, hfz⟩ := run_storeRow (P := Tryd.prog) h6o (cs := arr 8 (ws r.get)) (by rw [arr_size, arr_size]) (one_arr fun i _ => rfl)
                  have HZ := Lib.hid hz
                  have HFZ : Hid (Frm noB w wz) := Lib.hid (HFo.out.trans hfz fun x hx h => by have h : x = w.heap.size + 1 := h; omega)
                  clear hb8 h6o hz hfz hk H1 H2 HV
                  go_wp2_with (refine wpList_load_row rfl _ _ rfl w.heap.size rfl 92 _ (0, 0) _ HB8.out Tryd.underlying92 rfl (by rw [arr_size]; kernel_rfl) ?_)
                  exact bodyPost_ret (v := .agg (arr 8 (ws r.get))) (results_cell_row rfl _ _ (w.heap.size + 1) 92 _ (0, 0) _ rfl HZ.out Tryd.underlying92 rfl (by rw [arr_size]; kernel_rfl)) rfl ⟨by rw [HR.out]; rfl, HFZ.out⟩
end Go.Proofs.YtkhakddecmgejaaDoor
