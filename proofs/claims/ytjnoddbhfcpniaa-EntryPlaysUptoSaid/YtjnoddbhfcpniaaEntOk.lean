/-
  Submit, where the request is taken.
-/
import Derived.Test.YtjnoddbhfcpniaaEntSub
import Derived.Deep.RegionLaw
import Derived.Deep.AppendLies
import Derived.StillTailTactics
namespace Go.Proofs.Ytjnoddbhfcpniaa
open Go.RowKit
set_option linter.unusedVariables false
set_option linter.unusedSimpArgs false

theorem info36 : EInfo Try.prog 36 3 1 8 (.int .i64 0) := by
  obtain ⟨i, h1, h2, h3, h4⟩ := info_parts (show (Try.prog.info? 3).map (fun i => (i.zero, i.size, i.bytes)) = some (some (.int .i64 0), 1, 8) by kernel_rfl)
  exact ⟨Try.underlying36, ⟨i, h1, h2, h3, h4⟩, rfl, by decide⟩

def taken (s : ES) (client : Int) (l : List UInt8) : ES := { s with asked := mput s.asked client (.int .i64 s.who.length), who := s.who ++ [client], boxes := s.boxes ++ [l] }

section
variable {w : World} {b : Nat} {F : Nat → Prop} {fv : Value} {s : ES} {ma mr : Nat} {wv xv : Value} {xs : List Value} {rv : List (Int × Value)}

theorem OwnRows.snoc {w : World} {vs : List Value} {xss : List (List UInt8)} (h : OwnRows w vs xss) {v : Value} {l : List UInt8} (ho : w.ownsRow 0 5 1 v l.length (l.map bv)) (hv : ∀ i (h : i < vs.length) k, oB vs[i] k → ¬ oB v k) :
    OwnRows w (vs ++ [v]) (xss ++ [l]) := by
  have hl := h.1
  refine ⟨by simp [hl], fun i hi hi' => ?_, fun i j hi hj k hij hk => ?_⟩
  · by_cases e : i < vs.length
    · rw [List.getElem_append_left e, List.getElem_append_left (by omega)]; exact h.2.1 i e (by omega)
    · have e1 : i = vs.length := by simp at hi; omega
      subst e1
      simp [hl]
      simpa using ho
  · by_cases e : i < vs.length
    · rw [List.getElem_append_left e] at hk
      by_cases e' : j < vs.length
      · rw [List.getElem_append_left e']; exact h.2.2 i j e e' k hij hk
      · have e1 : j = vs.length := by simp at hj; omega
        subst e1
        simpa using hv i e k hk
    · have e1 : i = vs.length := by simp at hi; omega
      subst e1
      have e' : j < vs.length := by simp at hj; omega
      rw [List.getElem_append_left e']
      intro hk'
      exact hv j e' k hk' (by simpa using hk)

/-- the entry's blocks are apart: facts on numbers alone -/
structure Sep (w : World) (b ma mr : Nat) (wv xv : Value) (xs : List Value) (rv : List (Int × Value)) : Prop where
  b1 : b ≠ ma
  b2 : b ≠ mr
  m1 : ma ≠ mr
  w1 : ∀ k, oB wv k → k ≠ b ∧ k ≠ ma ∧ k ≠ mr ∧ ¬ oB xv k
  x1 : ∀ k, oB xv k → k ≠ b ∧ k ≠ ma ∧ k ≠ mr ∧ ¬ oB wv k
  i1 : ∀ i (h : i < xs.length) k, oB xs[i] k → k ≠ b ∧ k ≠ ma ∧ k ≠ mr ∧ ¬ oB wv k ∧ ¬ oB xv k
  r1 : ∀ x v k, mget rv x = some v → oB v k → k ≠ b ∧ k ≠ ma ∧ k ≠ mr ∧ ¬ oB wv k ∧ ¬ oB xv k
theorem IsE.sep (H : IsE w b F fv s ma mr wv xv xs rv) : Sep w b ma mr wv xv xs rv := by
  have lx := H.box.1
  have e1 : ∀ {v : Value} {e n : Nat} {ys : List Value}, w.ownsRow 0 e 1 v n ys → e ≠ 78 → ∀ k, oB v k → k ≠ b ∧ k ≠ ma ∧ k ≠ mr := fun h he k hk =>
    ⟨fun e => H.blk.own_ne h he (e ▸ hk), fun e => own_map_ne h H.ask (e ▸ hk), fun e => own_map_ne h H.rep (e ▸ hk)⟩
  refine ⟨H.blk.map_ne H.ask, H.blk.map_ne H.rep, H.ne, fun k hk => ?_, fun k hk => ?_, fun i hi k hk => ?_, fun x v k hx hk => ?_⟩
  · have := e1 H.own (by decide) k hk
    exact ⟨this.1, this.2.1, this.2.2, own_own_ne H.own H.row (by decide) hk⟩
  · have := e1 H.row (by decide) k hk
    exact ⟨this.1, this.2.1, this.2.2, own_own_ne H.row H.own (by decide) hk⟩
  · have ho := H.box.2.1 i hi (by omega)
    have := e1 ho (by decide) k hk
    exact ⟨this.1, this.2.1, this.2.2, own_own_ne ho H.own (by decide) hk, own_own_ne ho H.row (by decide) hk⟩
  · have ho : ∃ l : List UInt8, w.ownsRow 0 5 1 v l.length (l.map bv) := by
      rcases H.rpl.at_ x with ⟨h, _⟩ | ⟨v', l, h1, h2, h3⟩
      · rw [h] at hx; cases hx
      · rw [h1] at hx; cases hx; exact ⟨l, h3⟩
    obtain ⟨l, ho⟩ := ho
    have := e1 ho (by decide) k hk
    exact ⟨this.1, this.2.1, this.2.2, own_own_ne ho H.own (by decide) hk, own_own_ne ho H.row (by decide) hk⟩

/-- what Submit leaves -/
theorem sub_state (H : IsE w b F fv s ma mr wv xv xs rv) {client : Int} {l : List UInt8} {w1 w2 w3 w4 w5 w6 : World} {wv' v4 xv' : Value} (hm : (s.who.length : Int) < s.most)
    (f1 : Frm (isB ma) w w1) (m1 : IMap w1 ma (mput s.asked client (.int .i64 s.who.length))) (f2 : Frm (oB wv) w1 w2) (o2 : w2.ownsRow 0 3 1 wv' (s.who.length + 1) (s.who.map iv ++ [.int .i64 client])) (n2 : ∀ k, oB wv' k → oB wv k ∨ w1.heap.size ≤ k)
    (f3 : Frm (isB b) w2 w3) (f4 : Frm noB w3 w4) (o4 : w4.ownsRow w3.heap.size 5 1 v4 l.length (l.map bv)) (f5 : Frm (oB xv) w4 w5) (o5 : w5.ownsRow 0 35 1 xv' (xs.length + 1) (xs ++ [v4])) (n5 : ∀ k, oB xv' k → oB xv k ∨ w4.heap.size ≤ k)
    (f6 : Frm (isB b) w5 w6) (b6 : Blk w6 b 78 #[fv, .int .i64 s.clients, .int .i64 s.most, .int .i64 s.phase, .int .i64 s.kind, .int .i64 s.length, .int .u64 s.round, .int .i64 s.til, .map (some ma), wv', xv', .map (some mr)]) :
    IsE w6 b (fun k => F k ∨ w.heap.size ≤ k ∧ k < w6.heap.size) fv (taken s client l) ma mr wv' xv' (xs ++ [v4]) rv ∧ Frm F w w6 ∧ Grow F (fun k => F k ∨ w.heap.size ≤ k ∧ k < w6.heap.size) w w6 := by
  have s1 := f1.size
  have s2 := f2.size
  have s3 := f3.size
  have s4 := f4.size
  have s5 := f5.size
  have s6 := f6.size
  have P := H.sep
  have lb := H.lt b H.fb
  have lma := H.lt ma H.fa
  have lwv := fun k hk => H.lt k (H.fw k hk)
  have lxv := fun k hk => H.lt k (H.fx k hk)
  -- the frames, from each world to the last
  have g5 : Frm (isB b) w5 w6 := f6
  have g4 : Frm (fun k => oB xv k ∨ k = b) w4 w6 := (f5.mono fun k _ h => .inl h).trans f6 fun k _ h => .inr h
  have g2 : Frm (fun k => oB xv k ∨ k = b) w2 w6 := ((f3.mono fun k _ h => .inr h).trans f4 fun k _ h => h.elim).trans' g4
  have g1 : Frm (fun k => oB wv k ∨ oB xv k ∨ k = b) w1 w6 := (f2.mono fun k _ h => .inl h).trans g2 fun k _ h => .inr h
  have g0 : Frm (fun k => k = ma ∨ oB wv k ∨ oB xv k ∨ k = b) w w6 := (f1.mono fun k _ h => .inl h).trans g1 fun k _ h => .inr h
  have gF : Frm F w w6 := g0.mono fun k _ h => by
    rcases h with rfl | h | h | rfl
    · exact H.fa
    · exact H.fw k h
    · exact H.fx k h
    · exact H.fb
  have l4 := own_lt o4
  have hx' : ∀ k, oB xv' k → k < w6.heap.size := fun k hk => by have := (own_lt o5 k hk).2; omega
  have hw' : ∀ k, oB wv' k → k < w6.heap.size := fun k hk => by have := (own_lt o2 k hk).2; omega
  refine ⟨⟨b6, ?_, ?_, ?_, ?_, ?_, ?_, .inl H.fb, .inl H.fa, .inl H.fr, fun k hk => ?_, fun k hk => ?_, fun i hi k hk => ?_, fun x v k hx hk => .inl (H.fp x v k hx hk), fun x v j hj k hx hk => ?_, H.ne, fun k hk => ?_, H.cl, H.mo, H.ph, ?_, ?_⟩, gF, fun k hk => hk⟩
  · exact m1.frm g1 fun h => by
      rcases h with h | h | h
      · exact (P.w1 _ h).2.1 rfl
      · exact (P.x1 _ h).2.1 rfl
      · exact P.b1 h.symm
  · exact H.rep.frm g0 fun h => by
      rcases h with h | h | h | h
      · exact P.m1 h.symm
      · exact (P.w1 _ h).2.2.1 rfl
      · exact (P.x1 _ h).2.2.1 rfl
      · exact P.b2 h.symm
  · have := own_frm o2 g2 fun k hk h => by
      rcases n2 k hk with h' | h'
      · rcases h with h | h
        · exact (P.w1 k h').2.2.2 h
        · exact (P.w1 k h').1 h
      · rcases h with h | h
        · have := lxv k h; omega
        · omega
    simpa [taken, iv] using this
  · have := own_frm o5 f6 fun k hk h => by
      have h : k = b := h
      rcases n5 k hk with h' | h'
      · exact (P.x1 k h').1 h
      · omega
    simpa using this
  · refine (H.box.frm g0 fun i hi k hk h => ?_).snoc (own_base (own_frm o4 g4 fun k hk h => ?_) fun _ _ => Nat.zero_le _) fun i hi k hk h => ?_
    · have := P.i1 i hi k hk
      rcases h with h | h | h | h
      · exact this.2.1 h
      · exact this.2.2.2.1 h
      · exact this.2.2.2.2 h
      · exact this.1 h
    · have := (l4 k hk).1
      rcases h with h | h
      · have := lxv k h; omega
      · omega
    · have := (l4 k h).1
      have := H.lt k (H.fi i hi k hk)
      omega
  · exact H.rpl.frm g0 fun x v k hx hk h => by
      have := P.r1 x v k hx hk
      rcases h with h | h | h | h
      · exact this.2.1 h
      · exact this.2.2.2.1 h
      · exact this.2.2.2.2 h
      · exact this.1 h
  · rcases n2 k hk with h | h
    · exact .inl (H.fw k h)
    · exact .inr ⟨by omega, hw' k hk⟩
  · rcases n5 k hk with h | h
    · exact .inl (H.fx k h)
    · exact .inr ⟨by omega, hx' k hk⟩
  · by_cases e : i < xs.length
    · rw [List.getElem_append_left e] at hk; exact .inl (H.fi i e k hk)
    · have e1 : i = xs.length := by simp at hi; omega
      subst e1
      have := l4 k (by simpa using hk)
      exact .inr ⟨by omega, by omega⟩
  · by_cases e : j < xs.length
    · rw [List.getElem_append_left e]; exact H.rb x v j e k hx hk
    · have e1 : j = xs.length := by simp at hj; omega
      subst e1
      intro h
      have := l4 k (by simpa using h)
      have := H.lt k (H.fp x v k hx hk)
      omega
  · rcases hk with hk | hk
    · have := H.lt k hk; omega
    · exact hk.2
  · simp [taken]; omega
  · have := H.lx; simp [taken]; omega

set_option maxHeartbeats 1000000 in
theorem sub_ok (h : IsE w b F fv s ma mr wv xv xs rv) (client : Int) (A : Option Addr) (l : List UInt8) (c : Nat) (hl : Rd w A (l.map bv)) (hA : ∀ k, aB A k → ¬ F k) (hL : Len l.length) (hc : 0 ≤ client ∧ client < s.clients) (hp : s.phase = 1)
    (ht : (mget s.asked client).isSome = false) (hn : (l.length : Int) = s.length) (hm : (s.who.length : Int) < s.most) :
    Calls Try.prog 13 #[.pointer (some ⟨b, 0, none⟩), .int .i64 client, .slice A l.length c] w fun e w' =>
      e = .returned (.int .i64 0) ∧ ∃ F' wv' xv' xs', IsE w' b F' fv (taken s client l) ma mr wv' xv' xs' rv ∧ Frm F w w' ∧ Grow F F' w w' := by
  obtain ⟨Aw, cw, rfl, hcw⟩ := own_slice h.own
  obtain ⟨Ax, cx, rfl, hcx⟩ := own_slice h.row
  have c8 := h.blk.cell 8
  have c3 := h.blk.cell 3
  have c5 := h.blk.cell 5
  have c9 := h.blk.cell 9
  have c2 := h.blk.cell 2
  have hlk := run_lookup_int Try.underlying75 Try.underlying3 zero_int h.ask client
  simp [hp] at c8 c3 c5 c9 c2
  rw [ht] at hlk
  have hn' : ((l.length : Int) != s.length) = false := by simpa using hn
  have H := Lib.hid h
  have HL := Lib.hid hl
  clear h hp ht hn hl
  generalize (mget s.asked client).getD (Value.int .i64 0) = v0 at hlk
  go_enter Try.func13, Try.ntmps13
  go_wp2_with (go_at_call 30; refine (there_any b _ s.clients client w H.out.blk rfl hc).mono ?_; rintro e w' ⟨rfl, rfl⟩)
  go_quiet (fail)
  go_wp2
  clear hlk
  obtain ⟨w1, hup, hm1, hf1⟩ := run_update_int (P := Try.prog) (w := w.drewN (nq + 1)) Try.underlying75 Try.underlying3 (show IMap (w.drewN (nq + 1)) ma s.asked from H.out.ask) client (.int .i64 s.who.length)
  go_region
  clear hup
  have f1 : Frm (isB ma) w w1 := ((Frm.of_drewN _ w (nq + 1)).trans' hf1)
  have bma : b ≠ ma := H.out.blk.map_ne H.out.ask
  have B1 := H.out.blk.frm f1 bma
  have O1 := own_frm H.out.own f1 fun k hk e => own_map_ne H.out.own H.out.ask (by rw [← show k = ma from e]; exact hk)
  have c91 := B1.cell 9
  simp at c91
  have HB1 := Lib.hid B1
  have HO1 := Lib.hid O1
  have HF1 := Lib.hid f1
  have HM1 := Lib.hid hm1
  clear B1 O1 f1 hf1 hm1 c8 c3 c5 c9 c2 hn'
  go_wp2_with (at_builtin; refine app1 info36 rfl 0 HO1.out _ _ rfl rfl rfl rfl (by have := H.out.mo; have := H.out.ln; omega) (by have := H.out.mo; have := H.out.ln; omega) (Nat.zero_le _) ?_; intro A2 q2 w2 ho2 hq2 hf2 hv2; have HB2 := Lib.hid (HB1.out.frm hf2 (HB1.out.own_ne HO1.out (by decide))); have z9 := HB2.out.frozen 9; have c92 := HB2.out.cell 9; simp at c92; have HO2 := Lib.hid ho2; have HF2 := Lib.hid hf2; have HV2 := Lib.hid hv2; clear ho2 hf2 hv2)
  have B3 := HB2.out.set_ 9 (.slice A2 (s.who.length + 1) q2)
  have F3 : Frm (isB b) w2 (w2.setCell ⟨b, 9, none⟩ (.slice A2 (s.who.length + 1) q2)) := (Frm.refl (isB b) w2).setCell (a := ⟨b, 9, none⟩) (.inl (show isB b b from rfl)) _
  clear z9 c92 c91
  generalize w2.setCell ⟨b, 9, none⟩ (.slice A2 (s.who.length + 1) q2) = w3 at *
  have c103 := B3.cell 10
  simp at c103
  have HB3 := Lib.hid B3
  have HF3 := Lib.hid F3
  clear B3 F3
  have P := H.out.sep
  have HP := Lib.hid P
  clear P
  have HX3 : Hid (w3.ownsRow 0 35 1 (.slice Ax xs.length cx) xs.length xs) :=
    own_frm (own_frm (own_frm H.out.row HF1.out fun k hk => (HP.out.x1 k hk).2.1) HF2.out fun k hk => (HP.out.x1 k hk).2.2.2) HF3.out fun k hk => (HP.out.x1 k hk).1
  have HR : Hid (Rd w3 A (l.map bv)) := HL.out.frm (S := F) (((HF1.out.mono fun k _ e => show F k from (show k = ma from e) ▸ H.out.fa).trans HF2.out fun k _ h => H.out.fw k h).trans HF3.out fun k _ e => (show k = b from e) ▸ H.out.fb) hA
  have hbx : xs.length ≤ 256 := by have := H.out.mo; have := H.out.ln; have := H.out.lx; have := H.out.box.1; omega
  go_region_law (first | (refine step_app1 info37 rfl 0 HX4.out _ _ rfl rfl rfl rfl (by omega) (by omega) (Nat.zero_le _) ?_; intro A5 q5 w5 ho5 hq5 hf5 hv5; have HB5 := Lib.hid (HB4.out.frm hf5 (HB4.out.own_ne HX4.out (by decide))); have z5 := HB5.out.frozen 10; have c5 := HB5.out.cell 10; simp at c5; have HO5 := Lib.hid ho5; have HF5 := Lib.hid hf5; have HV5 := Lib.hid hv5; clear ho5 hf5 hv5) | (go_simp; go_at_call 31; refine (twin_any A l c w3.drew HR.out.drew hL).mono ?_; rintro e w4 ⟨v, rfl, ho, hf⟩; obtain ⟨A4, q4, rfl, hq4⟩ := own_slice ho; have HB4 := Lib.hid (HB3.out.frm' (((Frm.refl _ _).drew).trans' hf)); have c104 := HB4.out.cell 10; simp at c104; have c105 : (w4.alloc (.cells #[.slice A4 l.length q4] 35)).cell? ⟨b, 10, none⟩ = some (.slice Ax xs.length cx) := ((HB4.out.alloc _).cell 10).trans rfl; have HX4 := Lib.hid (own_frm' HX3.out (((Frm.refl _ _).drew).trans' hf)); have HO4 := Lib.hid ho; have HF4 := Lib.hid hf; clear ho hf))
  all_goals
    have B6 := HB5.out.set_ 10 (.slice A5 (xs.length + 1) q5)
    have F6 : Frm (isB b) w5 (w5.setCell ⟨b, 10, none⟩ (.slice A5 (xs.length + 1) q5)) := (Frm.refl (isB b) w5).setCell (a := ⟨b, 10, none⟩) (.inl (show isB b b from rfl)) _
    clear z5 c5 c103
    generalize w5.setCell ⟨b, 10, none⟩ (.slice A5 (xs.length + 1) q5) = w6 at *
    have HE := Lib.hid (sub_state H.out hm HF1.out HM1.out HF2.out HO2.out HV2.out HF3.out (((Frm.refl _ _).drew).trans' HF4.out) HO4.out HF5.out HO5.out HV5.out F6 (by simpa using B6))
    clear B6 F6
    go_wp2
    go_ret
    exact ⟨rfl, _, _, _, _, HE.out.1, HE.out.2⟩
end
end Go.Proofs.Ytjnoddbhfcpniaa
