/-
  EntryPlays: the document's New, Begin, Tick's and Close's refusals.
-/
import Derived.Test.YtjnoddbhfcpniaaRefE
import Derived.Deep.RegionHeld3
import Derived.Deep.DeepCutAuto
import Derived.BigQuiet
namespace Go.Proofs.Ytjnoddbhfcpniaa
open Go.RowKit
set_option linter.unusedVariables false
set_option linter.unusedSimpArgs false

theorem rnew_no (z1 z2 c m : Int) (w : World) (h : c < 1 ∨ 64 < c ∨ m < 1 ∨ 256 < m) :
    Calls Try.prog 34 #[.agg #[.int .i64 z1, .int .i64 z2], .int .i64 c, .int .i64 m] w fun e w' => e = .returned (.tuple #[.pointer none, .int .i64 2]) ∧ Frm noB w w' := by
  have hf : Frm noB w (w.alloc (.cells #[.int .i64 z1, .int .i64 z2] 55)) := (Frm.refl _ _).alloc _
  have HF := Lib.hid hf
  clear hf
  have key : ∀ (b1 b2 b3 b4 : Bool), decide (c < 1) = b1 → decide (64 < c) = b2 → decide (m < 1) = b3 → decide (256 < m) = b4 → (b1 || b2 || b3 || b4) = true →
    Calls Try.prog 34 #[.agg #[.int .i64 z1, .int .i64 z2], .int .i64 c, .int .i64 m] w fun e w' => e = .returned (.tuple #[.pointer none, .int .i64 2]) ∧ Frm noB w w' := by
    intro b1 b2 b3 b4 h1 h2 h3 h4 hh
    cases b1
    · cases b2
      · cases b3
        · cases b4
          · cases hh
          · go_enter Try.func34, Try.ntmps34
            go_wp2
            go_ret2
            exact ⟨rfl, HF.out⟩
        · go_enter Try.func34, Try.ntmps34
          go_wp2
          go_ret2
          exact ⟨rfl, HF.out⟩
      · go_enter Try.func34, Try.ntmps34
        go_wp2
        go_ret2
        exact ⟨rfl, HF.out⟩
    · go_enter Try.func34, Try.ntmps34
      go_wp2
      go_ret2
      exact ⟨rfl, HF.out⟩
  exact key _ _ _ _ rfl rfl rfl rfl (by simp; omega)
theorem rnew_yes (z1 z2 c m : Int) (w : World) (h : 1 ≤ c ∧ c ≤ 64 ∧ 1 ≤ m ∧ m ≤ 256) :
    Calls Try.prog 34 #[.agg #[.int .i64 z1, .int .i64 z2], .int .i64 c, .int .i64 m] w fun e w' => ∃ b, e = .returned (.tuple #[.pointer (some ⟨b, 0, none⟩), .int .i64 0]) ∧
      EntR w' b (rs0 z1 z2 c m) (fun k => k = b) ∧ w.heap.size ≤ b ∧ Frm noB w w' := by
  obtain ⟨h1, h2, h3, h4⟩ := h
  have hf : Frm noB w (w.alloc (.cells #[.int .i64 z1, .int .i64 z2] 55)) := (Frm.refl _ _).alloc _
  have hB : Blk (w.alloc (.cells #[.int .i64 z1, .int .i64 z2] 55)) w.heap.size 55 #[.int .i64 z1, .int .i64 z2] := Blk.new _ _ _
  have c0 := hB.cell 0
  have c1 := hB.cell 1
  have HF := Lib.hid hf
  clear hB hf
  go_enter Try.func34, Try.ntmps34
  go_upto_region 1 with fail
  generalize w.alloc (.cells #[.int .i64 z1, .int .i64 z2] 55) = w1 at *
  go_wp2
  go_ret2
  have hf2 : Frm noB w1 (w1.alloc (.cells #[.int .i64 z1, .int .i64 z2, .int .i64 c, .int .i64 m, .bool false, .bool false, .int .i64 0, .int .u64 0, .int .i64 0, .slice none 0 0, .slice none 0 0] 91)) := (Frm.refl _ _).alloc _
  refine ⟨_, rfl, ⟨_, _, [], [], Blk.new _ _ _, IsTk.nil _ _, IsTk.nil _ _, fun k hk => by simp [oB, Value.ownBlock] at hk, rfl, fun k hk => by subst hk; simp⟩, HF.out.size, HF.out.trans' hf2⟩

section
variable {w : World} {b : Nat} {G : Nat → Prop} {t : RS}
set_option maxHeartbeats 400000 in
theorem rbegin_c (h : EntR w b t G) (kind round til : Int) :
    Calls Try.prog 35 #[.pointer (some ⟨b, 0, none⟩), .int .i64 kind, .int .u64 round, .int .i64 til] w fun e w' => e = .returned (.int .i64 (begErr t kind round)) ∧
      EntR w' b (if begErr t kind round = 0 then begun t kind round til else t) G ∧ Frm (isB b) w w' ∧ (begErr t kind round ≠ 0 → w' = w) := by
  obtain ⟨tv, rv, te, re, h⟩ := h
  have no : ∀ n : Int, begErr t kind round = n → n ≠ 0 → ∀ (e : Ending) (w' : World), e = .returned (.int .i64 n) ∧ w' = w → e = .returned (.int .i64 (begErr t kind round)) ∧
      EntR w' b (if begErr t kind round = 0 then begun t kind round til else t) G ∧ Frm (isB b) w w' ∧ (begErr t kind round ≠ 0 → w' = w) := by
    rintro n hn h0 e w' ⟨rfl, rfl⟩
    rw [hn, if_neg h0]
    exact ⟨rfl, ⟨tv, rv, te, re, h⟩, Frm.refl _ _, fun _ => rfl⟩
  have c4 := h.blk.cell 4
  simp at c4
  by_cases h1 : kind = 1 ∨ kind = 2
  · have e1 : ∃ b1 b2 : Bool, (kind != 1) = b1 ∧ (kind != 2) = b2 ∧ (b1 && b2) = false := ⟨_, _, rfl, rfl, by rcases h1 with rfl | rfl <;> rfl⟩
    obtain ⟨b1, b2, e1, e2, e3⟩ := e1
    by_cases h2 : round = 0
    · refine Calls.mono (R := fun e w' => e = .returned (.int .i64 2) ∧ w' = w) ?_ (no 2 (by unfold begErr; rw [if_neg (fun h => h h1), if_pos h2]) (by decide))
      subst h2
      clear no h h1 c4
      cases b1
      · go_enter Try.func35, Try.ntmps35
        go_wp2
        go_ret
        exact ⟨rfl, rfl⟩
      · cases b2
        · go_enter Try.func35, Try.ntmps35
          go_wp2
          go_ret
          exact ⟨rfl, rfl⟩
        · cases e3
    · have e4 : (round == 0) = false := by simpa using h2
      by_cases h3 : t.op = true
      · refine Calls.mono (R := fun e w' => e = .returned (.int .i64 251) ∧ w' = w) ?_ (no 251 (by unfold begErr; rw [if_neg (fun h => h h1), if_neg h2, if_pos h3]) (by decide))
        rw [h3] at c4
        clear no h h1 h2 h3
        cases b1
        · go_enter Try.func35, Try.ntmps35
          go_wp2
          go_ret
          exact ⟨rfl, rfl⟩
        · cases b2
          · go_enter Try.func35, Try.ntmps35
            go_wp2
            go_ret
            exact ⟨rfl, rfl⟩
          · cases e3
      · have h3' : t.op = false := by simpa using h3
        have e0 : begErr t kind round = 0 := by unfold begErr; rw [if_neg (fun h => h h1), if_neg h2, if_neg h3]
        rw [e0, if_pos rfl]
        obtain ⟨A, n, rfl, _⟩ := own_slice h.tk.row
        have c5 := h.blk.cell 5
        have c6 := h.blk.cell 6
        have c7 := h.blk.cell 7
        have c8 := h.blk.cell 8
        have c9 := h.blk.cell 9
        have z4 := h.blk.frozen 4
        have z5 := h.blk.frozen 5
        have z6 := h.blk.frozen 6
        have z7 := h.blk.frozen 7
        have z8 := h.blk.frozen 8
        have z9 := h.blk.frozen 9
        simp at c5 c6 c7 c8 c9
        rw [h3'] at c4
        have hb6 := ((((((h.blk.set_ 4 (.bool true)).set_ 5 (.bool false)).set_ 6 (.int .i64 kind)).set_ 7 (.int .u64 round)).set_ 8 (.int .i64 til)).set_ 9 (.slice none 0 0))
        simp only [List.setIfInBounds_toArray, List.set_cons_succ, List.set_cons_zero] at hb6
        have hf6 : Frm (isB b) w ((((((w.setCell ⟨b, 4, none⟩ (.bool true)).setCell ⟨b, 5, none⟩ (.bool false)).setCell ⟨b, 6, none⟩ (.int .i64 kind)).setCell ⟨b, 7, none⟩ (.int .u64 round)).setCell ⟨b, 8, none⟩ (.int .i64 til)).setCell ⟨b, 9, none⟩ (.slice none 0 0)) :=
          ((((((Frm.refl (isB b) w).setCell (a := ⟨b, 4, none⟩) (.inl (show isB b b from rfl)) _).setCell (a := ⟨b, 5, none⟩) (.inl (show isB b b from rfl)) _).setCell (a := ⟨b, 6, none⟩) (.inl (show isB b b from rfl)) _).setCell (a := ⟨b, 7, none⟩) (.inl (show isB b b from rfl)) _).setCell (a := ⟨b, 8, none⟩) (.inl (show isB b b from rfl)) _).setCell (a := ⟨b, 9, none⟩) (.inl (show isB b b from rfl)) _
        have HB := Lib.hid hb6
        have HF := Lib.hid hf6
        have H := Lib.hid h
        clear no h hb6 hf6 h1 h2 h3 h3'
        have fin : ∀ w', Blk w' b 91 #[.int .i64 t.z1, .int .i64 t.z2, .int .i64 t.clients, .int .i64 t.most, .bool true, .bool false, .int .i64 kind, .int .u64 round, .int .i64 til, .slice none 0 0, rv] → Frm (isB b) w w' → EntR w' b (begun t kind round til) G := fun w' hB hF =>
          ⟨.slice none 0 0, rv, [], re, hB, IsTk.nil _ _, H.out.rp.frm hF (fun k hk e => H.out.rne ((show k = b from e) ▸ hk)) (fun i hi k hk e => H.out.rbne hi ((show k = b from e) ▸ hk)), fun k hk => by simp [oB, Value.ownBlock] at hk, H.out.gb, fun k hk => Nat.lt_of_lt_of_le (H.out.lt k hk) hF.size⟩
        have FIN := Lib.hid fin
        clear fin
        cases b1
        · go_enter Try.func35, Try.ntmps35
          go_wp2
          go_ret
          exact ⟨rfl, FIN.out _ HB.out HF.out, HF.out, fun h => absurd rfl h⟩
        · cases b2
          · go_enter Try.func35, Try.ntmps35
            go_wp2
            go_ret
            exact ⟨rfl, FIN.out _ HB.out HF.out, HF.out, fun h => absurd rfl h⟩
          · cases e3
  · refine Calls.mono (R := fun e w' => e = .returned (.int .i64 253) ∧ w' = w) ?_ (no 253 (by unfold begErr; rw [if_pos h1]) (by decide))
    have e1 : (kind != 1) = true := by simp; omega
    have e2 : (kind != 2) = true := by simp; omega
    clear no h h1 c4
    go_enter Try.func35, Try.ntmps35
    go_wp2
    go_ret
    exact ⟨rfl, rfl⟩
end
end Go.Proofs.Ytjnoddbhfcpniaa
