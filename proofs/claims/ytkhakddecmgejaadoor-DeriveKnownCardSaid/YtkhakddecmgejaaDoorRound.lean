/-
  The digest's round: a block goes into the state.
-/
import Derived.Test.YtkhakddecmgejaaDoorStep
import Derived.Test.YtkhakddecmgejaaDoorArr
import Derived.StillTailTactics
import Derived.BigRegion
namespace Go.Proofs.YtkhakddecmgejaaDoor
open Go.RowKit
set_option linter.unusedVariables false
set_option linter.unusedSimpArgs false

set_option maxRecDepth 100000 in
set_option maxHeartbeats 4000000 in
theorem round_any (w : World) (b : Nat) (st : Nat → UInt32) (bl : Nat → UInt8) (used size : Int) (hT : TabOk w) (hb : Blk w b 97 (arr 74 (hf st bl used size))) (h2 : 2 ≤ b) :
    Calls Tryd.prog 65 #[.pointer (some ⟨b, 0, none⟩)] w fun e w' => e = .returned (.tuple #[]) ∧ Blk w' b 97 (arr 74 (hf (comp st bl) bl used size)) ∧ Frm (isB b) w w' := by
  have HT := Lib.hid hT
  have hbl := hb.lt
  clear hT
  go_enter Tryd.func65, Tryd.ntmps65
  go_wp2_with fail
  have hgw : Blk (w.alloc (.cells (arr 64 (ws fun _ => 0)) 105)) w.heap.size 105 (arr 64 (ws fun _ => 0)) := Blk.new _ _ _
  have hfw : Frm noB w (w.alloc (.cells (arr 64 (ws fun _ => 0)) 105)) := (Frm.refl _ _).alloc _
  change Code.wp _ _ _ _ (w.alloc (.cells (arr 64 (ws fun _ => 0)) 105))
  generalize w.alloc (.cells (arr 64 (ws fun _ => 0)) 105) = w0 at *
  have HGW := Lib.hid hgw
  have HFW := Lib.hid hfw
  have HBB := Lib.hid hb
  clear hgw hfw hb
  go_loopw [12] (fun i wr => ∃ (k : Nat) (f : Nat → UInt32), k ≤ 16 ∧ i = .int .i64 k ∧ Blk wr w.heap.size 105 (arr 64 (ws f)) ∧ (∀ j, j < k → f j = wd bl j) ∧ Frm noB w wr) (fun i _ => 16 - (intOf i).toNat)
  case atStart => exact ⟨0, _, by omega, rfl, HGW.out, fun j h => absurd h (by omega), HFW.out⟩
  case round =>
    obtain ⟨k, f, hk, rfl, hB, hf', hF⟩ := hrel
    have HB := Lib.hid hB
    have HF := Lib.hid hF
    have Hf := Lib.hid hf'
    clear hB hF hf'
    by_cases hlt : k < 16
    · have hh := HBB.out.frm' HF.out
      have c0 := (hh.at_ (i := 8 + (4 * k)) (by omega)).trans (congrArg some (hf_bl (by omega)))
      have c1 := (hh.at_ (i := 8 + (4 * k + 1)) (by omega)).trans (congrArg some (hf_bl (by omega)))
      have c2 := (hh.at_ (i := 8 + (4 * k + 2)) (by omega)).trans (congrArg some (hf_bl (by omega)))
      have c3 := (hh.at_ (i := 8 + (4 * k + 3)) (by omega)).trans (congrArg some (hf_bl (by omega)))
      have g0 := HB.out.at_ (i := k) (by omega)
      have g1 := HB.out.frozen k
      have s0 : IntKind.i64.wrap (4 * (k : Int)) = 4 * (k : Int) := IntWalk.i64_in _ (by omega)
      have s1 : IntKind.i64.wrap (4 * (k : Int) + 1) = 4 * (k : Int) + 1 := IntWalk.i64_in _ (by omega)
      have s2 : IntKind.i64.wrap (4 * (k : Int) + 2) = 4 * (k : Int) + 2 := IntWalk.i64_in _ (by omega)
      have s3 : IntKind.i64.wrap (4 * (k : Int) + 3) = 4 * (k : Int) + 3 := IntWalk.i64_in _ (by omega)
      have n0 : (4 * (k : Int)).toNat = 4 * k := by omega
      have n1 : (4 * (k : Int) + 1).toNat = 4 * k + 1 := by omega
      have n2 : (4 * (k : Int) + 2).toNat = 4 * k + 2 := by omega
      have n3 : (4 * (k : Int) + 3).toNat = 4 * k + 3 := by omega
      have o0 : 0 ≤ 4 * (k : Int) ∧ 4 * (k : Int) < 64 := by omega
      have o1 : 0 ≤ 4 * (k : Int) + 1 ∧ 4 * (k : Int) + 1 < 64 := by omega
      have o2 : 0 ≤ 4 * (k : Int) + 2 ∧ 4 * (k : Int) + 2 < 64 := by omega
      have o3 : 0 ≤ 4 * (k : Int) + 3 ∧ 4 * (k : Int) + 3 < 64 := by omega
      have ok : (k : Int) < 64 := by omega
      have hw := u_wrap
      have h8 := u_sh8
      have h16 := u_sh16
      have h24 := u_sh24
      have hor := u_or
      clear hh
      go_wp2_with fail
      go_still_tail 43, (by kernel_rfl)
      change wpList _ _ _ _ _ wr.drew
      go_wp2_with fail
      clear s0 s1 s2 s3 n0 n1 n2 n3 hw h8 h16 h24 hor c0 c1 c2 c3 g0 g1
      refine ⟨⟨k + 1, fun i => if i = k then wd bl k else f i, by omega, by go_num, ?_, fun j hj => ?_, ?_⟩, by simp [intOf]; omega⟩
      · exact HB.out.drew.putw k (wd bl k)
      · show (if j = k then wd bl k else f j) = _
        by_cases e : j = k
        · rw [if_pos e, e]
        · rw [if_neg e]; exact Hf.out j (by omega)
      · exact HF.out.drew.setCell (.inr (Nat.le_refl _)) _
    · have e : k = 16 := by omega
      subst e
      rw [show ((16 : Nat) : Int) = 16 from rfl]
      have HS : Hid (IsSched bl f 16) := Lib.hid ⟨Hf.out, fun j h h' => absurd h (by omega)⟩
      clear Hf hk
      go_wp2_with fail
      go_loopw [4] (fun i wr => ∃ (k : Nat) (f : Nat → UInt32), 16 ≤ k ∧ k ≤ 64 ∧ i = .int .i64 k ∧ Blk wr w.heap.size 105 (arr 64 (ws f)) ∧ IsSched bl f k ∧ Frm noB w wr) (fun i _ => 64 - (intOf i).toNat)
      case atStart => exact ⟨16, f, by omega, by omega, rfl, HB.out, HS.out, HF.out⟩
      case round =>
        clear HB HF HS
        obtain ⟨k, f, hk0, hk, rfl, hB, hf', hF⟩ := hrel
        obtain ⟨wq, rfl⟩ : ∃ wq : World, wq = wr := ⟨_, rfl⟩
        have HB := Lib.hid hB
        have HF := Lib.hid hF
        have HS := Lib.hid hf'
        clear hB hF hf'
        by_cases hlt : k < 64
        · have s15 : IntKind.i64.wrap ((k : Int) - 15) = (k : Int) - 15 := IntWalk.i64_in _ (by omega)
          have s2 : IntKind.i64.wrap ((k : Int) - 2) = (k : Int) - 2 := IntWalk.i64_in _ (by omega)
          have s16 : IntKind.i64.wrap ((k : Int) - 16) = (k : Int) - 16 := IntWalk.i64_in _ (by omega)
          have s7 : IntKind.i64.wrap ((k : Int) - 7) = (k : Int) - 7 := IntWalk.i64_in _ (by omega)
          have n15 : ((k : Int) - 15).toNat = k - 15 := by omega
          have n2 : ((k : Int) - 2).toNat = k - 2 := by omega
          have n16 : ((k : Int) - 16).toNat = k - 16 := by omega
          have n7 : ((k : Int) - 7).toNat = k - 7 := by omega
          have o15 : 0 ≤ (k : Int) - 15 ∧ (k : Int) - 15 < 64 := by omega
          have o2 : 0 ≤ (k : Int) - 2 ∧ (k : Int) - 2 < 64 := by omega
          have o16 : 0 ≤ (k : Int) - 16 ∧ (k : Int) - 16 < 64 := by omega
          have o7 : 0 ≤ (k : Int) - 7 ∧ (k : Int) - 7 < 64 := by omega
          have ok : (k : Int) < 64 := by omega
          have p16 : (16 : Int) ≤ (k : Int) ∧ (16 : Nat) ≤ k ∧ (k : Int) < 64 + 16 ∧ (k : Int) < 80 := by omega
          have p7 : (7 : Int) ≤ (k : Int) ∧ (7 : Nat) ≤ k ∧ (k : Int) < 64 + 7 ∧ (k : Int) < 71 := by omega
          have c15 := HB.out.atw (i := k - 15) (by omega)
          have c2 := HB.out.atw (i := k - 2) (by omega)
          have hx := u_xor
          have h3 := u_xor8
          have h10 := u_xor1024
          go_wp2_with fail
          go_quiet (fail)
          go_wp2_with fail
          refine (rot_7 _ _).mono ?_
          rintro _ _ ⟨rfl, rfl⟩
          go_wp2_with fail
          refine (rot_18 _ _).mono ?_
          rintro _ _ ⟨rfl, rfl⟩
          go_wp2_with fail
          refine (rot_17 _ _).mono ?_
          rintro _ _ ⟨rfl, rfl⟩
          go_wp2_with fail
          refine (rot_19 _ _).mono ?_
          rintro _ _ ⟨rfl, rfl⟩
          have c16 := HB.out.atw (i := k - 16) (by omega)
          have c7 := HB.out.atw (i := k - 7) (by omega)
          have g0 := HB.out.atw (i := k) (by omega)
          have g1 := HB.out.frozen k
          have hs := u_add
          go_wp2_with fail
          go_region
          go_wp2_with fail
          clear c15 c2 c16 c7 g0 g1 hx h3 h10 hs s15 s2 s16 s7 n15 n2 n16 n7
          go_roundw
          case rel =>
            refine ⟨k + 1, fun i => if i = k then nxt f k else f i, by omega, by omega, by go_num, ?_, HS.out.put hk0, ?_⟩
            · exact (HB.out.drewN (nq + 1)).putw k (nxt f k)
            · exact (HF.out.drewN (nq + 1)).setCell (.inr (Nat.le_refl _)) _
          case measure => simp [intOf]; omega
        · have e : k = 64 := by omega
          subst e
          rw [show ((64 : Nat) : Int) = 64 from rfl]
          have hh := HBB.out.frm' HF.out
          have HH := Lib.hid hh
          have c0 := (hh.at_ (i := 0) (by decide)).trans (congrArg some (hf_st (by decide)))
          have c1 := (hh.at_ (i := 1) (by decide)).trans (congrArg some (hf_st (by decide)))
          have c2 := (hh.at_ (i := 2) (by decide)).trans (congrArg some (hf_st (by decide)))
          have c3 := (hh.at_ (i := 3) (by decide)).trans (congrArg some (hf_st (by decide)))
          have c4 := (hh.at_ (i := 4) (by decide)).trans (congrArg some (hf_st (by decide)))
          have c5 := (hh.at_ (i := 5) (by decide)).trans (congrArg some (hf_st (by decide)))
          have c6 := (hh.at_ (i := 6) (by decide)).trans (congrArg some (hf_st (by decide)))
          have c7 := (hh.at_ (i := 7) (by decide)).trans (congrArg some (hf_st (by decide)))
          clear hh hk0 hk
          go_wp2_with fail
          have hgv : Blk (wq.alloc (.cells (arr 8 (ws (S8.of st).get)) 92)) wq.heap.size 92 (arr 8 (ws (S8.of st).get)) := Blk.new _ _ _
          have hfv : Frm noB wq (wq.alloc (.cells (arr 8 (ws (S8.of st).get)) 92)) := (Frm.refl _ _).alloc _
          change Code.wp _ _ _ _ (wq.alloc (.cells (arr 8 (ws (S8.of st).get)) 92))
          generalize wq.alloc (.cells (arr 8 (ws (S8.of st).get)) 92) = w3 at *
          have hg12 : w.heap.size < wq.heap.size := HB.out.lt
          have HGV := Lib.hid hgv
          have HF3 := Lib.hid (HF.out.trans' hfv)
          have HB3 := Lib.hid (HB.out.frm' hfv)
          have SCH := Lib.hid HS.out.eq
          clear hgv hfv HB HF HS c0 c1 c2 c3 c4 c5 c6 c7 HH
          go_loopw [106] (fun i wr => ∃ (k : Nat) (s : S8), k ≤ 64 ∧ i = .int .i64 k ∧ s = steps bl (S8.of st) k ∧ Blk wr wq.heap.size 92 (arr 8 (ws s.get)) ∧ Blk wr w.heap.size 105 (arr 64 (ws f)) ∧ Frm noB w wr) (fun i _ => 64 - (intOf i).toNat)
          case atStart => exact ⟨0, S8.of st, by omega, rfl, rfl, HGV.out, HB3.out, HF3.out⟩
          case round =>
            clear HGV HF3 HB3
            obtain ⟨k, s, hk, rfl, hs, hB2, hB1, hF⟩ := hrel
            obtain ⟨wp, rfl⟩ : ∃ wp : World, wp = wr := ⟨_, rfl⟩
            have HS := Lib.hid hs
            have HB2 := Lib.hid hB2
            have HB1 := Lib.hid hB1
            have HF := Lib.hid hF
            clear hs hB2 hB1 hF
            by_cases hlt : k < 64
            · have d0 : wp.cell? ⟨wq.heap.size, 0, none⟩ = some (.int .u32 (u s.a)) := HB2.out.atw (by decide)
              have d1 : wp.cell? ⟨wq.heap.size, 1, none⟩ = some (.int .u32 (u s.b)) := HB2.out.atw (by decide)
              have d2 : wp.cell? ⟨wq.heap.size, 2, none⟩ = some (.int .u32 (u s.c)) := HB2.out.atw (by decide)
              have d3 : wp.cell? ⟨wq.heap.size, 3, none⟩ = some (.int .u32 (u s.d)) := HB2.out.atw (by decide)
              have d4 : wp.cell? ⟨wq.heap.size, 4, none⟩ = some (.int .u32 (u s.e)) := HB2.out.atw (by decide)
              have d5 : wp.cell? ⟨wq.heap.size, 5, none⟩ = some (.int .u32 (u s.f)) := HB2.out.atw (by decide)
              have d6 : wp.cell? ⟨wq.heap.size, 6, none⟩ = some (.int .u32 (u s.g)) := HB2.out.atw (by decide)
              have d7 : wp.cell? ⟨wq.heap.size, 7, none⟩ = some (.int .u32 (u s.h)) := HB2.out.atw (by decide)
              have dk := (HT.out.frm' HF.out).k k hlt
              have dw := HB1.out.atw (i := k) hlt
              have ok : (k : Int) < 64 := by omega
              have hs := u_add
              go_wp2_with fail
              go_still_tail 8, (by kernel_rfl)
              change wpList _ _ _ _ _ wp.drew
              go_wp2_with fail
              refine (step_any s (kw k + f k) wp.drew).mono ?_
              rintro _ w9 ⟨rfl, hf9⟩
              have e9 : (stp s (kw k + f k)).val = .agg #[.int .u32 (u (stp s (kw k + f k)).a), .int .u32 (u (stp s (kw k + f k)).b), .int .u32 (u (stp s (kw k + f k)).c), .int .u32 (u (stp s (kw k + f k)).d), .int .u32 (u (stp s (kw k + f k)).e), .int .u32 (u (stp s (kw k + f k)).f), .int .u32 (u (stp s (kw k + f k)).g), .int .u32 (u (stp s (kw k + f k)).h)] := rfl
              rw [e9]
              have HQ : Hid (stp s (kw k + f k) = steps bl (S8.of st) (k + 1)) := Lib.hid (by rw [SCH.out k hlt, HS.out]; rfl)
              have HB29 := Lib.hid (HB2.out.drew.frm' hf9)
              have HB19 := Lib.hid (HB1.out.drew.frm' hf9)
              have HF9 := Lib.hid ((HF.out.drew).trans' hf9)
              clear e9 hf9 d0 d1 d2 d3 d4 d5 d6 d7 dk dw
              generalize stp s (kw k + f k) = q at *
              have d0 := HB29.out.atw (i := 0) (by decide)
              have d1 := HB29.out.atw (i := 1) (by decide)
              have d2 := HB29.out.atw (i := 2) (by decide)
              have d3 := HB29.out.atw (i := 3) (by decide)
              have d4 := HB29.out.atw (i := 4) (by decide)
              have d5 := HB29.out.atw (i := 5) (by decide)
              have d6 := HB29.out.atw (i := 6) (by decide)
              have d7 := HB29.out.atw (i := 7) (by decide)
              have z0 := HB29.out.frozen 0
              have z1 := HB29.out.frozen 1
              have z2 := HB29.out.frozen 2
              have z3 := HB29.out.frozen 3
              have z4 := HB29.out.frozen 4
              have z5 := HB29.out.frozen 5
              have z6 := HB29.out.frozen 6
              have z7 := HB29.out.frozen 7
              try dsimp only
              go_wp2_with fail
              clear d0 d1 d2 d3 d4 d5 d6 d7 z0 z1 z2 z3 z4 z5 z6 z7
              refine ⟨⟨k + 1, q, by omega, by go_num, HQ.out, HB29.out.put8 q, ?_, ?_⟩, by simp [intOf]; omega⟩
              · repeat (refine Blk.far ?_ (Nat.ne_of_lt hg12) _)
                exact HB19.out
              · repeat (refine Frm.setCell ?_ (.inr (Nat.le_of_lt hg12)) _)
                exact HF9.out
            · have e : k = 64 := by omega
              subst e
              rw [show ((64 : Nat) : Int) = 64 from rfl]
              have HV : Hid (∀ j, comp st bl j = st j + s.get j) := Lib.hid fun j => by rw [comp, ← HS.out]
              have HBr := Lib.hid (HBB.out.frm' HF.out)
              clear HS HB1 hk
              go_wp2_with fail
              go_loopw [119] (fun i wr => ∃ (k : Nat) (st' : Nat → UInt32), k ≤ 8 ∧ i = .int .i64 k ∧ Blk wr b 97 (arr 74 (hf st' bl used size)) ∧ (∀ j, j < k → st' j = comp st bl j) ∧ (∀ j, k ≤ j → st' j = st j) ∧ Blk wr wq.heap.size 92 (arr 8 (ws s.get)) ∧ Frm (isB b) w wr) (fun i _ => 8 - (intOf i).toNat)
              case atStart => exact ⟨0, st, by omega, rfl, HBr.out, fun j h => absurd h (by omega), fun j _ => rfl, HB2.out, HF.out.any⟩
              case round =>
                clear HBr HB2 HF
                obtain ⟨k, st', hk, rfl, hB, h1, h2', hB2, hF⟩ := hrel
                obtain ⟨wo, rfl⟩ : ∃ wo : World, wo = wr := ⟨_, rfl⟩
                have HB := Lib.hid hB
                have H1 := Lib.hid h1
                have H2 := Lib.hid h2'
                have HB2 := Lib.hid hB2
                have HF := Lib.hid hF
                clear hB h1 h2' hB2 hF
                by_cases hlt : k < 8
                · have d0 := (HB.out.at_ (i := k) (by omega)).trans (congrArg some (hf_st hlt))
                  have d1 := HB.out.frozen k
                  have d2 := HB2.out.atw (i := k) hlt
                  have ok : (k : Int) < 8 := by omega
                  have hs := u_add
                  go_wp2_with fail
                  go_region
                  go_wp2_with fail
                  clear d0 d1 d2 hs
                  refine ⟨⟨k + 1, fun i => if i = k then st' k + s.get k else st' i, by omega, by go_num, ?_, fun j hj => ?_, fun j hj => ?_, ?_, ?_⟩, by simp [intOf]; omega⟩
                  · refine ((HB.out.put k (uv (st' k + s.get k))).same fun i _ => ?_).drew
                    unfold hf
                    by_cases e : i = k
                    · subst e; simp [hlt]
                    · simp [e]
                  · show (if j = k then st' k + s.get k else st' j) = _
                    by_cases e : j = k
                    · rw [if_pos e, H2.out k (Nat.le_refl _), e, HV.out]
                    · rw [if_neg e]; exact H1.out j (by omega)
                  · show (if j = k then st' k + s.get k else st' j) = _
                    rw [if_neg (by omega)]; exact H2.out j (by omega)
                  · exact (HB2.out.far (by show wq.heap.size ≠ b; omega) _).drew
                  · exact (HF.out.setCell (.inl (show isB b b from rfl)) _).drew
                · have e : k = 8 := by omega
                  subst e
                  go_wp2_with fail
                  go_end0
                  refine ⟨rfl, ?_, HF.out⟩
                  refine HB.out.same fun i _ => ?_
                  unfold hf
                  by_cases e : i < 8
                  · rw [if_pos e, if_pos e, H1.out i e]
                  · rw [if_neg e, if_neg e]
end Go.Proofs.YtkhakddecmgejaaDoor
