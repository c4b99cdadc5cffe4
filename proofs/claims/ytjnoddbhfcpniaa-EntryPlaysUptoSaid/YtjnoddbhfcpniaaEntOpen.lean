/-
  Open.
-/
import Derived.Test.YtjnoddbhfcpniaaEntOk
namespace Go.Proofs.Ytjnoddbhfcpniaa
open Go.RowKit
set_option linter.unusedVariables false
set_option linter.unusedSimpArgs false

def opened (s : ES) (kind round til len : Int) : ES := { s with phase := 1, kind := kind, round := round, til := til, length := len, who := [], boxes := [], asked := [] }
section
variable {w : World} {b : Nat} {F : Nat → Prop} {fv : Value} {s : ES} {ma mr : Nat} {wv xv : Value} {xs : List Value} {rv : List (Int × Value)}

theorem open_kind (h : IsE w b F fv s ma mr wv xv xs rv) (kind round til : Int) (hk : kind ≠ 1 ∧ kind ≠ 2) :
    Calls Try.prog 12 #[.pointer (some ⟨b, 0, none⟩), .int .i64 kind, .int .u64 round, .int .i64 til] w (SubNo w 253) := by
  have h1 : (kind != 1) = true := by simpa using hk.1
  have h2 : (kind != 2) = true := by simpa using hk.2
  clear hk h
  go_enter Try.func12, Try.ntmps12
  go_wp2
  go_ret
  exact ⟨rfl, Frm.refl _ _⟩
theorem open_zero (h : IsE w b F fv s ma mr wv xv xs rv) (kind til : Int) (hk : kind = 1 ∨ kind = 2) :
    Calls Try.prog 12 #[.pointer (some ⟨b, 0, none⟩), .int .i64 kind, .int .u64 0, .int .i64 til] w (SubNo w 2) := by
  rcases hk with rfl | rfl
  all_goals
    go_enter Try.func12, Try.ntmps12
    go_wp2
    go_ret
    exact ⟨rfl, Frm.refl _ _⟩
theorem open_state (h : IsE w b F fv s ma mr wv xv xs rv) (kind round til : Int) (hk : kind = 1 ∨ kind = 2) (hr : round ≠ 0) (hp : s.phase = 1) :
    Calls Try.prog 12 #[.pointer (some ⟨b, 0, none⟩), .int .i64 kind, .int .u64 round, .int .i64 til] w (SubNo w 251) := by
  have c3 := h.blk.cell 3
  simp [hp] at c3
  have hr' : (round == 0) = false := by simpa using hr
  clear hp hr h
  rcases hk with rfl | rfl
  all_goals
    go_enter Try.func12, Try.ntmps12
    go_wp2
    go_ret
    exact ⟨rfl, Frm.refl _ _⟩

/-- what Open leaves -/
theorem open_end (H : IsE w b F fv s ma mr wv xv xs rv) {kind round til len : Int} {w0 w1 w2 w3 : World} {G : Nat → Prop} (hG : ∀ k, G k → ¬ F k)
    (f0 : Frm (isB b) w w0) (f1 : Frm G w0 w1) (f2 : Frm (isB b) w1 w2) (b2 : Blk w2 b 78 #[fv, .int .i64 s.clients, .int .i64 s.most, .int .i64 1, .int .i64 kind, .int .i64 len, .int .u64 round, .int .i64 til, .map (some ma), .slice none 0 0, .slice none 0 0, .map (some mr)])
    (f3 : Frm (isB ma) w2 w3) (m3 : IMap w3 ma []) : IsE w3 b F fv (opened s kind round til len) ma mr (.slice none 0 0) (.slice none 0 0) [] rv ∧ Frm F w1 w3 := by
  have P := H.sep
  have s0 := f0.size
  have s1 := f1.size
  have s2 := f2.size
  have s3 := f3.size
  have g1 : Frm (fun k => k = b ∨ k = ma) w1 w3 := (f2.mono fun k _ h => .inl h).trans f3 fun k _ h => .inr h
  have g0 : Frm (fun k => k = b ∨ k = ma ∨ G k) w w3 := ((f0.mono fun k _ h => .inl h).trans f1 fun k _ h => .inr (.inr h)).trans g1 fun k _ h => by rcases h with h | h <;> simp [h]
  refine ⟨⟨b2.frm f3 P.b1, m3, H.rep.frm g0 fun h => ?_, World.ownsRow_nil _ _ _ _, World.ownsRow_nil _ _ _ _, ⟨rfl, fun i h => absurd h (by simp), fun i j h => absurd h (by simp)⟩, H.rpl.frm g0 fun x v k hx hk h => ?_,
    H.fb, H.fa, H.fr, fun k hk => by simp [oB, Value.ownBlock] at hk, fun k hk => by simp [oB, Value.ownBlock] at hk, fun i h => absurd h (by simp), H.fp, fun x v j hj => absurd hj (by simp), H.ne, fun k hk => ?_, H.cl, H.mo, .inr (.inl rfl), by have := H.mo; simp [opened]; omega, by simp [opened]⟩, g1.mono fun k _ h => ?_⟩
  · rcases h with h | h | h
    · exact P.b2 h.symm
    · exact P.m1 h.symm
    · exact hG _ h H.fr
  · have := P.r1 x v k hx hk
    rcases h with h | h | h
    · exact this.1 h
    · exact this.2.1 h
    · exact hG _ h (H.fp x v k hx hk)
  · have := H.lt k hk; omega
  · rcases h with rfl | rfl
    · exact H.fb
    · exact H.fa

set_option maxHeartbeats 1000000 in
theorem open_ok {fid : Nat} {fc : Array Value} (h : IsE w b F (.func (.func fid) #[] fc) s ma mr wv xv xs rv) (kind round til len : Int) (hk : kind = 1 ∨ kind = 2) (hr : round ≠ 0) (hp : s.phase ≠ 1) {G : Nat → Prop} {R : World → World → Prop}
    (hcf : ∀ args w, (callFunc fid args).run Try.prog w = .ok (.enter fid args) w)
    (hz : ∀ w0, Frm F w w0 → Calls Try.prog fid (#[.int .i64 kind] ++ fc) w0 fun e w' => e = .returned (.int .i64 len) ∧ Frm G w0 w' ∧ R w0 w') (hG : ∀ k, G k → ¬ F k) :
    Calls Try.prog 12 #[.pointer (some ⟨b, 0, none⟩), .int .i64 kind, .int .u64 round, .int .i64 til] w fun e w' => e = .returned (.int .i64 0) ∧
      IsE w' b F (.func (.func fid) #[] fc) (opened s kind round til len) ma mr (.slice none 0 0) (.slice none 0 0) [] rv ∧ ∃ w0 w1, Frm F w w0 ∧ Frm G w0 w1 ∧ R w0 w1 ∧ Frm F w1 w' := by
  have c3 := h.blk.cell 3
  have z3 := h.blk.frozen 3
  have c4 := h.blk.cell 4
  have z4 := h.blk.frozen 4
  have c6 := h.blk.cell 6
  have z6 := h.blk.frozen 6
  have c7 := h.blk.cell 7
  have z7 := h.blk.frozen 7
  have c0 := h.blk.cell 0
  simp at c3 c4 c6 c7 c0
  have hr' : (round == 0) = false := by simpa using hr
  have hp' : (s.phase == 1) = false := by simpa using hp
  have H := Lib.hid h
  have HZ := Lib.hid hz
  clear hp hr h hz
  have hkk : ((kind != 1) = false) ∨ ((kind != 1) = true ∧ (kind != 2) = false) := by rcases hk with rfl | rfl <;> simp
  clear hk
  have B0 := (((H.out.blk.set_ 3 (.int .i64 1)).set_ 4 (.int .i64 kind)).set_ 6 (.int .u64 round)).set_ 7 (.int .i64 til)
  have F0 : Frm (isB b) w ((((w.setCell ⟨b, 3, none⟩ (.int .i64 1)).setCell ⟨b, 4, none⟩ (.int .i64 kind)).setCell ⟨b, 6, none⟩ (.int .u64 round)).setCell ⟨b, 7, none⟩ (.int .i64 til)) :=
    ((((Frm.refl (isB b) w).setCell (a := ⟨b, 3, none⟩) (.inl (show isB b b from rfl)) _).setCell (a := ⟨b, 4, none⟩) (.inl (show isB b b from rfl)) _).setCell (a := ⟨b, 6, none⟩) (.inl (show isB b b from rfl)) _).setCell (a := ⟨b, 7, none⟩) (.inl (show isB b b from rfl)) _
  have HB0 := Lib.hid B0
  have HF0 := Lib.hid F0
  clear B0 F0
  have HP := Lib.hid H.out.sep
  have hGb : ¬ G b := fun h => hG b h H.out.fb
  rcases hkk with hk1 | ⟨hk1, hk2⟩
  all_goals
    go_enter Try.func12, Try.ntmps12
    go_wp2_with fail
    refine (HZ.out _ (HF0.out.mono fun k _ h => (show k = b from h) ▸ H.out.fb)).mono ?_
    rintro e w1 ⟨rfl, hf1, hR⟩
    have B1 := HB0.out.frm hf1 hGb
    have c51 := B1.cell 5
    have z51 := B1.frozen 5
    have c91 := B1.cell 9
    have z91 := B1.frozen 9
    have cx1 := B1.cell 10
    have zx1 := B1.frozen 10
    have c81 := B1.cell 8
    simp at c51 c91 cx1 c81
    have B2 := ((B1.set_ 5 (.int .i64 len)).set_ 9 (.slice none 0 0)).set_ 10 (.slice none 0 0)
    have F2 : Frm (isB b) w1 (((w1.setCell ⟨b, 5, none⟩ (.int .i64 len)).setCell ⟨b, 9, none⟩ (.slice none 0 0)).setCell ⟨b, 10, none⟩ (.slice none 0 0)) :=
      (((Frm.refl (isB b) w1).setCell (a := ⟨b, 5, none⟩) (.inl (show isB b b from rfl)) _).setCell (a := ⟨b, 9, none⟩) (.inl (show isB b b from rfl)) _).setCell (a := ⟨b, 10, none⟩) (.inl (show isB b b from rfl)) _
    have HB2 := Lib.hid B2
    have HF2 := Lib.hid F2
    have HR := Lib.hid hR
    have HF1 := Lib.hid hf1
    clear B1 B2 F2 hR hf1
    have HM2 : Hid (IMap (((w1.setCell ⟨b, 5, none⟩ (.int .i64 len)).setCell ⟨b, 9, none⟩ (.slice none 0 0)).setCell ⟨b, 10, none⟩ (.slice none 0 0)) ma s.asked) :=
      ((H.out.ask.frm HF0.out fun h => HP.out.b1 (show ma = b from h).symm).frm HF1.out fun h => hG _ h H.out.fa).frm HF2.out fun h => HP.out.b1 (show ma = b from h).symm
    go_wp2_with ((with_reducible refine mapClear Try.underlying75 rfl HM2.out _ rfl rfl ?_); intro w3 m3 f3; have HM3 := Lib.hid m3; have HF3 := Lib.hid f3; clear m3 f3)
    go_ret
    have := open_end H.out hG HF0.out HF1.out HF2.out (by simpa using HB2.out) HF3.out HM3.out (kind := kind) (round := round) (til := til) (len := len)
    exact ⟨rfl, this.1, _, _, HF0.out.mono (fun k _ h => (show k = b from h) ▸ H.out.fb), HF1.out, HR.out, this.2⟩
end
end Go.Proofs.Ytjnoddbhfcpniaa
