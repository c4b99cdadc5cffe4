/-
  Answer.
-/
import Derived.Test.YtjnoddbhfcpniaaEntCol
namespace Go.Proofs.Ytjnoddbhfcpniaa
open Go.RowKit
set_option linter.unusedVariables false
set_option linter.unusedSimpArgs false

/-- which reply is there for whom, when k of them have been laid -/
def repl (who : List Int) (reps : List (List UInt8)) : Nat → Int → Option (List UInt8)
  | 0, _ => none
  | k + 1, x => if who[k]?.getD 0 = x then some (reps[k]?.getD []) else repl who reps k x
def answered (s : ES) (reps : List (List UInt8)) : ES := { s with phase := 0, replies := repl s.who reps s.who.length }
section
variable {w : World} {b : Nat} {F : Nat → Prop} {fv : Value} {s : ES} {ma mr : Nat} {wv xv : Value} {xs : List Value} {rv : List (Int × Value)}

theorem ans_state (h : IsE w b F fv s ma mr wv xv xs rv) (A : Option Addr) (n c : Nat) (hp : s.phase ≠ 2) :
    Calls Try.prog 15 #[.pointer (some ⟨b, 0, none⟩), .slice A n c] w (SubNo w 251) := by
  have c3 := h.blk.cell 3
  simp at c3
  have hp' : (s.phase != 2) = true := by simpa using hp
  clear hp h
  go_enter Try.func15, Try.ntmps15
  go_wp2
  go_ret
  exact ⟨rfl, Frm.refl _ _⟩
theorem ans_length (h : IsE w b F fv s ma mr wv xv xs rv) (A : Option Addr) (n c : Nat) (hp : s.phase = 2) (hn : n ≠ s.who.length) :
    Calls Try.prog 15 #[.pointer (some ⟨b, 0, none⟩), .slice A n c] w (SubNo w 4) := by
  obtain ⟨Aw, cw, rfl, hcw⟩ := own_slice h.own
  have c3 := h.blk.cell 3
  have c9 := h.blk.cell 9
  simp [hp] at c3 c9
  have hn' : ((n : Int) != (s.who.length : Int)) = true := by simp; omega
  clear hp h hn
  go_enter Try.func15, Try.ntmps15
  go_wp2
  go_ret
  exact ⟨rfl, Frm.refl _ _⟩

/-- what the rounds hold -/
structure AnsRel (w : World) (b : Nat) (s : ES) (fv : Value) (ma mr : Nat) (wv xv : Value) (reps : List (List UInt8)) (k : Nat) (rv' : List (Int × Value)) (wr : World) : Prop where
  blk : Blk wr b 78 #[fv, .int .i64 s.clients, .int .i64 s.most, .int .i64 0, .int .i64 s.kind, .int .i64 s.length, .int .u64 s.round, .int .i64 s.til, .map (some ma), wv, xv, .map (some mr)]
  rep : IMap wr mr rv'
  rpl : OwnMap wr rv' (repl s.who reps k)
  new : ∀ x v k, mget rv' x = some v → oB v k → w.heap.size ≤ k
  frm : Frm (fun k => k = b ∨ k = mr) w wr

theorem ans_step (H : IsE w b F fv s ma mr wv xv xs rv) {reps : List (List UInt8)} {k : Nat} {rv' : List (Int × Value)} {wr w1 w2 : World} (h : AnsRel w b s fv ma mr wv xv reps k rv' wr) {v : Value} {l : List UInt8} (hl : reps[k]?.getD [] = l) {x : Int} (hx : s.who[k]?.getD 0 = x)
    (f1 : Frm noB wr w1) (ho : w1.ownsRow wr.heap.size 5 1 v l.length (l.map bv)) (f2 : Frm (isB mr) w1 w2) (m2 : IMap w2 mr (mput rv' x v)) : AnsRel w b s fv ma mr wv xv reps (k + 1) (mput rv' x v) w2 := by
  have P := H.sep
  have g : Frm (isB mr) wr w2 := f1.any.trans' f2
  have lr := H.lt mr H.fr
  have sr := h.frm.size
  have hv := own_lt ho
  have s1 := f1.size
  refine ⟨h.blk.frm g P.b2, m2, ⟨mput_nodup h.rpl.nd x v, fun y => ?_, fun y z u u' j hyz hy hz hj => ?_⟩, fun y u j hy hj => ?_, h.frm.trans g fun j _ hj => .inr hj⟩
  · rw [mget_mput]
    by_cases e : x = y
    · right
      rw [if_pos e]
      refine ⟨v, l, rfl, by simp only [repl]; rw [hx, if_pos e, hl], own_base (own_frm ho f2 fun j hj h => ?_) fun _ _ => Nat.zero_le _⟩
      have := (hv j hj).1
      have h : j = mr := h
      omega
    · rw [if_neg e]
      have e2 : repl s.who reps (k + 1) y = repl s.who reps k y := by simp only [repl]; rw [hx, if_neg e]
      rw [e2]
      exact (h.rpl.at_ y).imp id fun ⟨u, l', h1, h2, h3⟩ => ⟨u, l', h1, h2, own_frm h3 g fun j hj h' => by
        have := h.new y u j h1 hj
        have h' : j = mr := h'
        omega⟩
  · rw [mget_mput] at hy hz
    intro hj'
    by_cases e : x = y
    · rw [if_pos e] at hy
      by_cases e' : x = z
      · exact hyz (e.symm.trans e')
      · rw [if_neg e'] at hz
        cases hy
        have := (hv j hj).1
        rcases h.rpl.at_ z with ⟨h1, _⟩ | ⟨u2, l', h1, h2, h3⟩
        · rw [h1] at hz; cases hz
        · rw [h1] at hz; cases hz
          have := (own_lt h3 j hj').2
          omega
    · rw [if_neg e] at hy
      by_cases e' : x = z
      · rw [if_pos e'] at hz
        cases hz
        have := (hv j hj').1
        rcases h.rpl.at_ y with ⟨h1, _⟩ | ⟨u2, l', h1, h2, h3⟩
        · rw [h1] at hy; cases hy
        · rw [h1] at hy; cases hy
          have := (own_lt h3 j hj).2
          omega
      · rw [if_neg e'] at hz
        exact h.rpl.ap y z u u' j hyz hy hz hj hj'
  · rw [mget_mput] at hy
    by_cases e : x = y
    · rw [if_pos e] at hy; cases hy
      have := (hv j hj).1
      omega
    · rw [if_neg e] at hy; exact h.new y u j hy hj

theorem ans_end (H : IsE w b F fv s ma mr wv xv xs rv) {reps : List (List UInt8)} {rv' : List (Int × Value)} {wr : World} (h : AnsRel w b s fv ma mr wv xv reps s.who.length rv' wr) :
    IsE wr b (fun k => F k ∨ w.heap.size ≤ k ∧ k < wr.heap.size) fv (answered s reps) ma mr wv xv xs rv' ∧ Frm F w wr ∧ (∀ x v k, mget rv' x = some v → oB v k → w.heap.size ≤ k) := by
  have P := H.sep
  have g := h.frm
  have hlt : ∀ x v k, mget rv' x = some v → oB v k → k < wr.heap.size := fun x v k hx hk => by
    rcases h.rpl.at_ x with ⟨h1, _⟩ | ⟨u2, l', h1, h2, h3⟩
    · rw [h1] at hx; cases hx
    · rw [h1] at hx; cases hx; exact (own_lt h3 k hk).2
  refine ⟨⟨h.blk, H.ask.frm g fun e => ?_, h.rep, own_frm H.own g fun k hk e => ?_, own_frm H.row g fun k hk e => ?_, H.box.frm g fun i hi k hk e => ?_, h.rpl, .inl H.fb, .inl H.fa, .inl H.fr, fun k hk => .inl (H.fw k hk), fun k hk => .inl (H.fx k hk), fun i hi k hk => .inl (H.fi i hi k hk),
    fun x v k hx hk => .inr ⟨h.new x v k hx hk, hlt x v k hx hk⟩, fun x v j hj k hx hk e => ?_, H.ne, fun k hk => ?_, H.cl, H.mo, .inl rfl, H.ln, H.lx⟩, g.mono fun k _ e => ?_, h.new⟩
  · rcases e with e | e
    · exact P.b1 e.symm
    · exact P.m1 e
  · have := P.w1 k hk
    rcases e with e | e
    · exact this.1 e
    · exact this.2.2.1 e
  · have := P.x1 k hk
    rcases e with e | e
    · exact this.1 e
    · exact this.2.2.1 e
  · have := P.i1 i hi k hk
    rcases e with e | e
    · exact this.1 e
    · exact this.2.2.1 e
  · have := h.new x v k hx hk
    have := H.lt k (H.fi j hj k e)
    omega
  · rcases hk with hk | hk
    · have := H.lt k hk; have := g.size; omega
    · exact hk.2
  · rcases e with rfl | rfl
    · exact H.fb
    · exact H.fr

set_option maxHeartbeats 1000000 in
theorem ans_ok (h : IsE w b F fv s ma mr wv xv xs rv) (A : Option Addr) (reps : List (List UInt8)) (c : Nat) (hA : RdRows w A reps (fun k => ¬ F k)) (hp : s.phase = 2) (hn : reps.length = s.who.length) (hL : ∀ l ∈ reps, Len l.length) :
    Calls Try.prog 15 #[.pointer (some ⟨b, 0, none⟩), .slice A reps.length c] w fun e w' => e = .returned (.int .i64 0) ∧ ∃ F' rv', IsE w' b F' fv (answered s reps) ma mr wv xv xs rv' ∧ Frm F w w' ∧ Grow F F' w w' ∧
      (∀ x v k, mget rv' x = some v → oB v k → w.heap.size ≤ k) := by
  obtain ⟨Aw, cw, rfl, hcw⟩ := own_slice h.own
  have c3 := h.blk.cell 3
  have z3 := h.blk.frozen 3
  have c9 := h.blk.cell 9
  have cx := h.blk.cell 11
  simp [hp] at c3 c9 cx
  have hn' : ((reps.length : Int) != (s.who.length : Int)) = false := by simp; omega
  have hsmall : s.who.length ≤ 256 := by have := h.mo; have := h.ln; omega
  have H := Lib.hid h
  have HA := Lib.hid hA
  have HN := Lib.hid hn
  have HP := Lib.hid h.sep
  have HL := Lib.hid hL
  have B1 := h.blk.set_ 3 (.int .i64 0)
  simp only [List.setIfInBounds_toArray, List.set_cons_succ, List.set_cons_zero] at B1
  have F1 : Frm (isB b) w (w.setCell ⟨b, 3, none⟩ (.int .i64 0)) := (Frm.refl (isB b) w).setCell (a := ⟨b, 3, none⟩) (.inl (show isB b b from rfl)) _
  have HM1 := Lib.hid (h.rep.frm F1 fun e => h.sep.b2 (show mr = b from e).symm)
  have HB1 := Lib.hid B1
  have HF1 := Lib.hid F1
  clear hp h hA hn B1 F1 hL
  go_enter Try.func15, Try.ntmps15
  go_wp2_with ((with_reducible refine mapClear Try.underlying76 rfl HM1.out _ rfl rfl ?_); intro w3 m3 f3; have HM3 := Lib.hid m3; have HF3 := Lib.hid f3; have HB3 := Lib.hid (HB1.out.frm f3 HP.out.b2); clear m3 f3 c3 z3 c9 cx; have c93 := HB3.out.cell 9; simp at c93)
  clear c93
  have HR0 : Hid (AnsRel w b s fv ma mr (.slice Aw s.who.length cw) xv reps 0 [] w3) :=
    ⟨HB3.out, HM3.out, ⟨by simp, fun x => .inl ⟨rfl, rfl⟩, fun x y v u k _ h => by simp [mget_nil] at h⟩, fun x v k h => by simp [mget_nil] at h, (HF1.out.mono fun k _ e => .inl e).trans HF3.out fun k _ e => .inr e⟩
  go_loopw [37] (fun i wr => ∃ (k : Nat) (rv' : List (Int × Value)), k ≤ s.who.length ∧ i = .int .i64 k ∧ AnsRel w b s fv ma mr (.slice Aw s.who.length cw) xv reps k rv' wr) (fun i _ => s.who.length - (intOf i).toNat)
  case atStart => exact ⟨0, [], Nat.zero_le _, rfl, HR0.out⟩
  case round =>
    obtain ⟨k, rv', hk, rfl, hr⟩ := hrel
    by_cases hlt : k < s.who.length
    · obtain ⟨bw, ow, rfl, hcw1⟩ := (Rd.of_own (own_frm H.out.own hr.frm fun k hk e => by
        have := HP.out.w1 k hk
        rcases e with e | e
        · exact this.1 e
        · exact this.2.2.1 e)).i hlt
      obtain ⟨br, or', Al, cl, rfl, hcr1, _, hrl, hNl, hNb⟩ := (HA.out.frm hr.frm fun k hN e => hN (by rcases e with rfl | rfl <;> first | exact H.out.fb | exact H.out.fr)).at (i := k) (by rw [HN.out]; exact hlt)
      have hkr : k < reps.length := by rw [HN.out]; exact hlt
      have c11 := hr.blk.cell 11
      simp at c11
      have hbr : br ≠ mr := fun e => hNb (by subst e; exact H.out.fr)
      have hLl : Len reps[k].length := HL.out _ (List.getElem_mem hkr)
      have HR := Lib.hid hr
      have HRL := Lib.hid hrl
      have HHL := Lib.hid hLl
      clear hr hrl hNl hNb hLl HR0 HB3 HM3 HF3
      go_wp2_with fail
      go_region_held3 (fun w' => w'.cell? ⟨b, 11, none⟩ = some (.map (some mr)) ∧ w'.cell? ⟨br, or' + k, none⟩ = some (.slice Al reps[k].length cl)) (first | exact ⟨c11, hcr1⟩ | exact ⟨d11, dcr⟩ | exact ⟨e11, ecr⟩) ((first | (go_simp; go_at_call 31; refine (twin_any Al reps[k] cl wr.drew HRL.out.drew HHL.out).mono ?_; rintro e w1 ⟨v, rfl, ho, hf⟩; have HF4 := Lib.hid (((Frm.refl noB wr).drew).trans' hf); have HB4 := Lib.hid (HR.out.blk.frm' HF4.out); have HM4 := Lib.hid (HR.out.rep.frm HF4.out fun h => h); have d11 := HB4.out.cell 11; simp at d11; have dcr := HF4.out.cell_some hcr1 (fun h => h); have HO4 := Lib.hid ho; obtain ⟨w2, hup, m2, f2⟩ := run_update_int (P := Try.prog) (w := w1) Try.underlying76 Try.underlying3 HM4.out s.who[k] v; have e11 := (HB4.out.frm f2 HP.out.b2).cell 11; simp at e11; have ecr := f2.cell_some dcr hbr; have HM5 := Lib.hid m2; have HF5 := Lib.hid f2; clear m2 f2 ho hf)))
      go_wp2
      go_roundw
      case rel =>
        refine ⟨k + 1, _, by omega, by go_num, ans_step H.out HR.out (by simp [hkr]) (by simp [hlt]) HF4.out HO4.out HF5.out HM5.out⟩
      case measure => simp [intOf]; omega
    · have e : k = s.who.length := by omega
      subst e
      have HR := Lib.hid hr
      clear hr HR0 HB3 HM3 HF3
      go_wp2
      go_ret
      have hE := ans_end H.out HR.out
      exact ⟨rfl, _, _, hE.1, hE.2.1, fun k hk => hk, hE.2.2⟩
end
end Go.Proofs.Ytjnoddbhfcpniaa
