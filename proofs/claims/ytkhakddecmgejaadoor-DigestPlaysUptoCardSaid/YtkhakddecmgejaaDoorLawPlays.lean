/-
  trystlaw03.DigestPlays: the walk.
-/
import Derived.Test.YtkhakddecmgejaaDoorTrio
import Derived.Deep.RegionHeld3
namespace Go.Proofs.YtkhakddecmgejaaDoor
open Go.RowKit
set_option linter.unusedVariables false
set_option linter.unusedSimpArgs false

set_option maxRecDepth 100000 in
set_option maxHeartbeats 4000000 in
theorem digestPlays_any (w : World) (A : Option Addr) (l : List POp) (c : Nat) (hT : TabOk w) (hx : RdOps w A l (fun k => k < w.heap.size)) (hl : brings l l.length ≤ 4000000) (hn : l.length ≤ 2000000) :
    Calls Tryd.prog 6 #[.slice A l.length c] w fun e w' => e = .returned (.bool true) ∧ Frm noB w w' := by
  have HT := Lib.hid hT
  have HX := Lib.hid hx
  have h2 := hT.size
  clear hT hx
  have hf0 : Frm noB w (w.alloc (.cells #[.pointer none, .pointer none, .pointer none] 46)) := (Frm.refl _ _).alloc _
  have h0 : Trio (w.alloc (.cells #[.pointer none, .pointer none, .pointer none] 46)) w.heap.size w.heap.size (fun _ => 0) (fun _ => none) (fun _ => .slice none 0 0) (fun _ => []) 0 0 :=
    ⟨(Blk.new w _ (arr 3 fun _ => .pointer none)).same fun i _ => by rw [if_neg (by omega)], fun i h => absurd h (by omega), fun i j h => absurd h (by omega), fun i j b h => absurd h (by omega), fun i h => absurd h (by omega), Nat.le_refl _⟩
  have H0 := Lib.hid h0
  have HF0 := Lib.hid hf0
  clear h0 hf0
  go_enter Tryd.func6, Tryd.ntmps6
  go_wp2_with fail
  go_loopw [4] (fun i wr => ∃ (k : Nat) (ps : Nat → Nat) (hs : Nat → Option Nat) (vs : Nat → Value) (ms : Nat → List UInt8), k ≤ 3 ∧ i = .int .i64 k ∧ Trio wr w.heap.size w.heap.size ps hs vs ms 0 k ∧ Frm noB w wr) (fun i _ => 3 - (intOf i).toNat)
  case atStart => exact ⟨0, _, _, _, _, by omega, rfl, H0.out, HF0.out⟩
  case round =>
    clear H0 HF0
    obtain ⟨k, ps, hs, vs, ms, hk, rfl, hI, hF⟩ := hrel
    obtain ⟨wq, rfl⟩ : ∃ wq : World, wq = wr := ⟨_, rfl⟩
    have HI := Lib.hid hI
    have HF := Lib.hid hF
    clear hI hF
    by_cases hlt : k < 3
    · go_wp2_with fail
      refine (new_any wq (HT.out.frm' HF.out)).mono ?_
      rintro _ w1 ⟨b, rfl, hb, hI1, hf1⟩
      have HI1 := Lib.hid hI1
      have HF1 := Lib.hid hf1
      have hA := (HI.out.frm' hf1).arr
      have e0 : w1.cell? ⟨w.heap.size, k, none⟩ = some (.pointer none) := by rw [hA.at_ hlt, if_neg (by omega)]
      have f0 := hA.frozen k
      have hal := hA.lt
      clear hI1 hf1 hA
      try dsimp only
      go_wp2_with fail
      have hwb : w.heap.size ≤ b := Nat.le_trans HF.out.size hb
      have hput := HI.out.put (k' := k + 1) (j := k) (p' := w1.heap.size) (h' := some b) (v' := .slice none 0 0) (m' := []) (fun i => by omega) (HF1.out.alloc (.cells #[.pointer (some ⟨b, 0, none⟩), .slice none 0 0, .bool false] 48))
        ⟨Blk.new _ _ _, World.ownsRow_nil _ _ _ _, (fun b' e => by injection e with e; subst e; exact ⟨HI1.out.frm' ((Frm.refl _ _).alloc _), hwb⟩), (fun e => by cases e), Nat.le_of_lt hal, h2⟩ HF1.out.size (fun b' e => by injection e with e; subst e; exact hb) (Nat.zero_le _)
      rw [World.setCell_alloc_past _ _ _ _ hal] at hput
      exact ⟨⟨k + 1, _, _, _, _, by omega, by go_num, hput, ((HF.out.trans' HF1.out).setCell (.inr (Nat.le_refl _)) _).alloc _⟩, by simp [intOf]; omega⟩
    · have e : k = 3 := by omega
      subst e
      rw [show ((3 : Nat) : Int) = 3 from rfl]
      go_wp2_with fail
      go_loopw [5] (fun i wr => ∃ (k : Nat) (ps : Nat → Nat) (hs : Nat → Option Nat) (vs : Nat → Value) (ms : Nat → List UInt8), k ≤ l.length ∧ i = .int .i64 k ∧ Trio wr w.heap.size w.heap.size ps hs vs ms (brings l k) 3 ∧ Frm noB w wr) (fun i _ => l.length - (intOf i).toNat)
      case atStart => exact ⟨0, _, _, _, _, Nat.zero_le _, rfl, HI.out.mono (Nat.zero_le _), HF.out⟩
      case round =>
        clear HI HF
        obtain ⟨k, ps, hs, vs, ms, hk, rfl, hI, hF⟩ := hrel
        have HI := Lib.hid hI
        have HF := Lib.hid hF
        clear hI hF
        by_cases hlt : k < l.length
        · obtain ⟨bo, o, Ai, ci, rfl, c0, c1, c2, c3, b0, b1, b2, hci, hri, hbo, hbi⟩ := (HX.out.frm' HF.out) k hlt
          have HR := Lib.hid hri
          have HB1 := Lib.hid b1
          have HB2 := Lib.hid b2
          have HBI := Lib.hid hbi
          have hbr := brings_succ l hlt
          have hbl := brings_le l (k + 1)
          clear hri hbi b1 b2 b0
          generalize l[k].kind = kind at *
          generalize l[k].which = wh at *
          generalize l[k].tw = tw at *
          generalize hbe : l[k].b = xs at *
          clear hbe
          go_upto_region 12 with fail
          have hob := Blk.new wr 50 #[.int .i64 kind, .int .i64 wh, .int .i64 tw, .slice Ai xs.length ci]
          have hfo : Frm noB wr (wr.alloc (.cells #[.int .i64 kind, .int .i64 wh, .int .i64 tw, .slice Ai xs.length ci] 50)) := (Frm.refl _ _).alloc _
          change Code.wp _ _ _ _ (wr.alloc (.cells #[.int .i64 kind, .int .i64 wh, .int .i64 tw, .slice Ai xs.length ci] 50))
          generalize wr.alloc (.cells #[.int .i64 kind, .int .i64 wh, .int .i64 tw, .slice Ai xs.length ci] 50) = w1 at *
          generalize hobe : wr.heap.size = ob at *
          have o0 : w1.cell? ⟨ob, 0, none⟩ = some (.int .i64 kind) := hob.cell 0
          have o1 : w1.cell? ⟨ob, 1, none⟩ = some (.int .i64 wh) := hob.cell 1
          have o2 : w1.cell? ⟨ob, 2, none⟩ = some (.int .i64 tw) := hob.cell 2
          have o3 : w1.cell? ⟨ob, 3, none⟩ = some (.slice Ai xs.length ci) := hob.cell 3
          have HOB := Lib.hid hob
          have HF1 := Lib.hid (HF.out.trans' hfo)
          have HI1 := Lib.hid (HI.out.frm' hfo)
          have HR1 := Lib.hid (HR.out.frm' hfo)
          clear hob hfo c0 c1 c2 c3 HF HI HR hobe
          go_wp2_with fail
          refine (within3 wh w1 HB1.out).mono ?_
          rintro _ _ ⟨⟨r, rfl, hr⟩, rfl⟩
          have e0 := HI1.out.at_ hr
          try dsimp only
          by_cases hk4 : kind = 4
          · subst hk4
            have hP := HI1.out.each r hr
            have HP := Lib.hid hP
            have p1 : w1.cell? ⟨ps r, 1, none⟩ = some (vs r) := hP.blk.cell 1
            obtain ⟨Av, cv, hv, hcv⟩ := own_slice hP.all
            have HV := Lib.hid hv
            rw [hv] at p1
            rcases hh : hs r with _ | b
            · have p0 : w1.cell? ⟨ps r, 0, none⟩ = some (.pointer none) := by have := hP.blk.cell 0; rw [hh] at this; exact this
              have p2 : w1.cell? ⟨ps r, 2, none⟩ = some (.bool true) := by have := hP.blk.cell 2; rw [hh] at this; exact this
              have HH := Lib.hid hh
              clear hP hv hh
              go_wp2_with fail
              refine (copy_nil w1).mono ?_
              rintro _ _ ⟨rfl, rfl⟩
              try dsimp only
              go_wp2_with fail
              have HF12 : Hid (Frm noB w1 w1) := Lib.hid (Frm.refl _ _)
              have hal : w.heap.size < w1.heap.size := Nat.lt_of_lt_of_le HI1.out.arr.lt HF12.out.size
              have hle12 := HF12.out.size
              have o2 : w1.cell? ⟨ob, 2, none⟩ = some (.int .i64 tw) := HF12.out.cell_some o2 (fun h => h)
              have p1 : w1.cell? ⟨ps r, 1, none⟩ = some (.slice Av (ms r).length cv) := HF12.out.cell_some p1 (fun h => h)
              have p2 : w1.cell? ⟨ps r, 2, none⟩ = some (.bool true) := HF12.out.cell_some p2 (fun h => h)
              have o2d : w1.drew.cell? ⟨ob, 2, none⟩ = some (.int .i64 tw) := o2
              have p1d : w1.drew.cell? ⟨ps r, 1, none⟩ = some (.slice Av (ms r).length cv) := p1
              have p2d : w1.drew.cell? ⟨ps r, 2, none⟩ = some (.bool true) := p2
              have HI2 := Lib.hid (HI1.out.frm' HF12.out)
              have HTT : Hid (∀ r2, r2 < 3 → Trio ((w1.setCell ⟨w.heap.size, r2, none⟩ (.pointer (some ⟨w1.heap.size, 0, none⟩))).alloc (.cells #[.pointer none, .slice Av (ms r).length cv, .bool true] 48)).drew w.heap.size w.heap.size (upd ps r2 w1.heap.size) (upd hs r2 (none)) (upd vs r2 (.slice Av (ms r).length cv)) (upd ms r2 (ms r)) (brings l (k + 1)) 3) := Lib.hid fun r2 hr2 => by
                have hput := HI1.out.put (k' := 3) (j := r2) (p' := w1.heap.size) (h' := none) (v' := .slice Av (ms r).length cv) (m' := ms r) (fun i => by omega) (HF12.out.alloc (.cells #[.pointer none, .slice Av (ms r).length cv, .bool true] 48))
                  ⟨Blk.new _ _ _, by have := (HI2.out.each r hr).all; rw [HV.out] at this; exact own_frm' this ((Frm.refl _ _).alloc _), (fun b' e => by cases e), (fun _ => HP.out.nil HH.out), by omega, h2⟩ (by omega) (fun b' e => by cases e) (HI1.out.le r hr)
                rw [World.setCell_alloc_past _ _ _ _ hal] at hput
                exact (hput.mono (by omega)).frm' (Frm.refl noB _).drew
              have hkeep : ∀ (i : Nat) (v : Value) (o : Obj), ((w1.setCell ⟨w.heap.size, i, none⟩ v).alloc o).drew.cell? ⟨ob, 2, none⟩ = some (.int .i64 tw) ∧ ((w1.setCell ⟨w.heap.size, i, none⟩ v).alloc o).drew.cell? ⟨ps r, 1, none⟩ = some (.slice Av (ms r).length cv) ∧ ((w1.setCell ⟨w.heap.size, i, none⟩ v).alloc o).drew.cell? ⟨ps r, 2, none⟩ = some (.bool true) := fun i v o => by
                have hs : Frm (fun q => q = w.heap.size) w1 ((w1.setCell ⟨w.heap.size, i, none⟩ v).alloc o).drew := ((Frm.setCell (S := fun q => q = w.heap.size) (Frm.refl _ w1) (Or.inl rfl) v).alloc o).drew
                have n1 : ob ≠ w.heap.size := HOB.out.ne_ HI1.out.arr (by decide)
                have n2 : ps r ≠ w.heap.size := HP.out.blk.ne_ HI1.out.arr (by decide)
                exact ⟨hs.cell_some o2 n1, hs.cell_some p1 n2, hs.cell_some p2 n2⟩
              go_region_held3 (fun w' => w'.cell? ⟨ob, 2, none⟩ = some (.int .i64 tw) ∧ w'.cell? ⟨ps r, 1, none⟩ = some (.slice Av (ms r).length cv) ∧ w'.cell? ⟨ps r, 2, none⟩ = some (.bool true)) (first | exact ⟨o2, p1, p2⟩ | exact ⟨o2d, p1d, p2d⟩ | exact hkeep _ _ _ | go_keep) ((first | (go_simp; go_at_call 28; refine (within3 tw _ HB2.out).mono ?_; rintro _ _ ⟨⟨r2, rfl, hr2⟩, rfl⟩; have e2 := HI2.out.at_ hr2; have f2 := HI2.out.arr.frozen r2; have q0 : (0 : Int) ≤ (r2 : Int) := Int.natCast_nonneg _; have q3 : (r2 : Int) < 3 := by omega)))
              all_goals
                go_wp2_with fail
                exact ⟨⟨k + 1, _, _, _, _, by omega, by go_num, HTT.out _ hr2, (((HF1.out.trans' HF12.out).setCell (.inr (Nat.le_refl _)) _).alloc _).drew⟩, by simp [intOf]; omega⟩
            · have p0 : w1.cell? ⟨ps r, 0, none⟩ = some (.pointer (some ⟨b, 0, none⟩)) := by have := hP.blk.cell 0; rw [hh] at this; exact this
              have p2 : w1.cell? ⟨ps r, 2, none⟩ = some (.bool false) := by have := hP.blk.cell 2; rw [hh] at this; exact this
              have HH := Lib.hid hh
              clear hP hv hh
              go_wp2_with fail
              refine (copy_any w1 b (ms r) (HP.out.hash b HH.out).1).mono ?_
              rintro _ w2 ⟨g, rfl, hg, hI2, hf2⟩
              have HF12 : Hid (Frm noB w1 w2) := Lib.hid hf2
              have HI9 := Lib.hid hI2
              clear hI2 hf2
              try dsimp only
              have p2' : w2.cell? ⟨ps r, 2, none⟩ = some (.bool false) := HF12.out.cell_some p2 (fun h => h)
              go_wp2_with fail
              clear p2' p0
              have hal : w.heap.size < w2.heap.size := Nat.lt_of_lt_of_le HI1.out.arr.lt HF12.out.size
              have hle12 := HF12.out.size
              have o2 : w2.cell? ⟨ob, 2, none⟩ = some (.int .i64 tw) := HF12.out.cell_some o2 (fun h => h)
              have p1 : w2.cell? ⟨ps r, 1, none⟩ = some (.slice Av (ms r).length cv) := HF12.out.cell_some p1 (fun h => h)
              have p2 : w2.cell? ⟨ps r, 2, none⟩ = some (.bool false) := HF12.out.cell_some p2 (fun h => h)
              have o2d : w2.drew.cell? ⟨ob, 2, none⟩ = some (.int .i64 tw) := o2
              have p1d : w2.drew.cell? ⟨ps r, 1, none⟩ = some (.slice Av (ms r).length cv) := p1
              have p2d : w2.drew.cell? ⟨ps r, 2, none⟩ = some (.bool false) := p2
              have HI2 := Lib.hid (HI1.out.frm' HF12.out)
              have HTT : Hid (∀ r2, r2 < 3 → Trio ((w2.setCell ⟨w.heap.size, r2, none⟩ (.pointer (some ⟨w2.heap.size, 0, none⟩))).alloc (.cells #[.pointer (some ⟨g, 0, none⟩), .slice Av (ms r).length cv, .bool false] 48)).drew w.heap.size w.heap.size (upd ps r2 w2.heap.size) (upd hs r2 (some g)) (upd vs r2 (.slice Av (ms r).length cv)) (upd ms r2 (ms r)) (brings l (k + 1)) 3) := Lib.hid fun r2 hr2 => by
                have hput := HI1.out.put (k' := 3) (j := r2) (p' := w2.heap.size) (h' := some g) (v' := .slice Av (ms r).length cv) (m' := ms r) (fun i => by omega) (HF12.out.alloc (.cells #[.pointer (some ⟨g, 0, none⟩), .slice Av (ms r).length cv, .bool false] 48))
                  ⟨Blk.new _ _ _, by have := (HI2.out.each r hr).all; rw [HV.out] at this; exact own_frm' this ((Frm.refl _ _).alloc _), (fun b' e => by injection e with e; subst e; exact ⟨HI9.out.frm' ((Frm.refl _ _).alloc _), by have := HF1.out.size; omega⟩), (fun e => by cases e), by omega, h2⟩ (by omega) (fun b' e => by injection e with e; subst e; exact hg) (HI1.out.le r hr)
                rw [World.setCell_alloc_past _ _ _ _ hal] at hput
                exact (hput.mono (by omega)).frm' (Frm.refl noB _).drew
              have hkeep : ∀ (i : Nat) (v : Value) (o : Obj), ((w2.setCell ⟨w.heap.size, i, none⟩ v).alloc o).drew.cell? ⟨ob, 2, none⟩ = some (.int .i64 tw) ∧ ((w2.setCell ⟨w.heap.size, i, none⟩ v).alloc o).drew.cell? ⟨ps r, 1, none⟩ = some (.slice Av (ms r).length cv) ∧ ((w2.setCell ⟨w.heap.size, i, none⟩ v).alloc o).drew.cell? ⟨ps r, 2, none⟩ = some (.bool false) := fun i v o => by
                have hs : Frm (fun q => q = w.heap.size) w2 ((w2.setCell ⟨w.heap.size, i, none⟩ v).alloc o).drew := ((Frm.setCell (S := fun q => q = w.heap.size) (Frm.refl _ w2) (Or.inl rfl) v).alloc o).drew
                have n1 : ob ≠ w.heap.size := HOB.out.ne_ HI1.out.arr (by decide)
                have n2 : ps r ≠ w.heap.size := HP.out.blk.ne_ HI1.out.arr (by decide)
                exact ⟨hs.cell_some o2 n1, hs.cell_some p1 n2, hs.cell_some p2 n2⟩
              go_region_held3 (fun w' => w'.cell? ⟨ob, 2, none⟩ = some (.int .i64 tw) ∧ w'.cell? ⟨ps r, 1, none⟩ = some (.slice Av (ms r).length cv) ∧ w'.cell? ⟨ps r, 2, none⟩ = some (.bool false)) (first | exact ⟨o2, p1, p2⟩ | exact ⟨o2d, p1d, p2d⟩ | exact hkeep _ _ _ | go_keep) ((first | (go_simp; go_at_call 28; refine (within3 tw _ HB2.out).mono ?_; rintro _ _ ⟨⟨r2, rfl, hr2⟩, rfl⟩; have e2 := HI2.out.at_ hr2; have f2 := HI2.out.arr.frozen r2; have q0 : (0 : Int) ≤ (r2 : Int) := Int.natCast_nonneg _; have q3 : (r2 : Int) < 3 := by omega)))
              all_goals
                go_wp2_with fail
                exact ⟨⟨k + 1, _, _, _, _, by omega, by go_num, HTT.out _ hr2, (((HF1.out.trans' HF12.out).setCell (.inr (Nat.le_refl _)) _).alloc _).drew⟩, by simp [intOf]; omega⟩
          · have hk4' : (kind == 4) = false := by simpa using hk4
            clear hk4
            go_wp2_with fail
            refine (stepped_any w1 w.heap.size (ps r) (hs r) (vs r) (ms r) kind wh tw Ai xs ci (HT.out.frm' HF1.out) (HI1.out.each r hr) HR1.out HBI.out hci (by have := HI1.out.le r hr; omega)).mono ?_
            rintro e w2 ⟨rfl, h', v', m', hP', hm', hb', hf'⟩
            have HP' := Lib.hid hP'
            have HB' := Lib.hid hb'
            have HF' := Lib.hid hf'
            clear hP' hb' hf' o0 o1 o2 o3 e0
            try dsimp only
            go_wp2_with fail
            have hle := HI1.out.le r hr
            refine ⟨⟨k + 1, ps, _, _, _, by omega, by go_num, HI1.out.step hr HP'.out (by omega) (by omega) HB'.out HF'.out, HF1.out.trans HF'.out fun q hq hk => ?_⟩, by simp [intOf]; omega⟩
            have hP := HI1.out.each r hr
            rcases hk with hk | hk
            · have := hP.ge; omega
            · have := (hP.hash q hk).2; omega
        · have e : k = l.length := by omega
          subst e
          go_wp2_with fail
          go_loopw [9] (fun i wr => ∃ (k : Nat) (ps : Nat → Nat) (hs : Nat → Option Nat) (vs : Nat → Value) (ms : Nat → List UInt8), k ≤ 3 ∧ i = .int .i64 k ∧ Trio wr w.heap.size w.heap.size ps hs vs ms (brings l l.length) 3 ∧ Frm noB w wr) (fun i _ => 3 - (intOf i).toNat)
          case atStart => exact ⟨0, _, _, _, _, by omega, rfl, HI.out, HF.out⟩
          case round =>
            clear HI HF
            obtain ⟨k, ps, hs, vs, ms, hk, rfl, hI, hF⟩ := hrel
            obtain ⟨wq, rfl⟩ : ∃ wq : World, wq = wr := ⟨_, rfl⟩
            have HI := Lib.hid hI
            have HF := Lib.hid hF
            clear hI hF
            by_cases hlt : k < 3
            · have e0 := HI.out.at_ hlt
              go_wp2_with fail
              refine (stepped_any wq w.heap.size (ps k) (hs k) (vs k) (ms k) 2 0 0 none [] 0 (HT.out.frm' HF.out) (HI.out.each k hlt) (Rd.nil _ _) (fun h => absurd rfl h) (Nat.le_refl _) (by have := HI.out.le k hlt; simp; omega)).mono ?_
              rintro e w2 ⟨rfl, h', v', m', hP', hm', hb', hf'⟩
              have hP := HI.out.each k hlt
              have hle := HI.out.le k hlt
              have hI2 := HI.out.step hlt hP' (n' := brings l l.length) (by simp at hm'; omega) (Nat.le_refl _) hb' hf'
              have HI2 := Lib.hid hI2
              have HF2 : Hid (Frm noB w w2) := Lib.hid (HF.out.trans hf' fun q hq hk => by
                rcases hk with hk | hk
                · have := hP.ge; omega
                · have := (hP.hash q hk).2; omega)
              have e2 := hI2.at_ hlt
              clear hP' hb' hf' hP hI2 e0
              try dsimp only
              go_wp2_with fail
              refine (stepped_any w2 w.heap.size (ps k) _ _ _ 3 0 0 none [] 0 (HT.out.frm' HF2.out) (HI2.out.each k hlt) (Rd.nil _ _) (fun h => absurd rfl h) (Nat.le_refl _) (by have := HI2.out.le k hlt; simp; omega)).mono ?_
              rintro e w3 ⟨rfl, h3, v3, m3, hP3, hm3, hb3, hf3⟩
              have hP := HI2.out.each k hlt
              have hle := HI2.out.le k hlt
              have HI3 := Lib.hid (HI2.out.step hlt hP3 (n' := brings l l.length) (by simp at hm3; omega) (Nat.le_refl _) hb3 hf3)
              have HF3 : Hid (Frm noB w w3) := Lib.hid (HF2.out.trans hf3 fun q hq hk => by
                rcases hk with hk | hk
                · have := hP.ge; omega
                · have := (hP.hash q hk).2; omega)
              clear hP3 hb3 hf3 hP e2 hle hm3 hm'
              try dsimp only
              go_wp2_with fail
              exact ⟨⟨k + 1, ps, _, _, _, by omega, by go_num, HI3.out, HF3.out⟩, by simp [intOf]; omega⟩
            · have e : k = 3 := by omega
              subst e
              rw [show ((3 : Nat) : Int) = 3 from rfl]
              go_wp2_with fail
              refine (works03 wq (HT.out.frm' HF.out)).mono ?_
              rintro _ w3 ⟨rfl, hf⟩
              try dsimp only
              go_wp2_with fail
              go_ret
              exact ⟨rfl, HF.out.trans' hf⟩
end Go.Proofs.YtkhakddecmgejaaDoor
