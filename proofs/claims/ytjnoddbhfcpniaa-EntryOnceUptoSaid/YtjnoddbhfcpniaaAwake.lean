/-
  awake.
-/
import Derived.Test.YtjnoddbhfcpniaaEntC
namespace Go.Proofs.Ytjnoddbhfcpniaa
open Go.RowKit
set_option linter.unusedVariables false
set_option linter.unusedSimpArgs false

/-- what was there is as it was -/
theorem Frm.old {w0 w w' : World} {F : Nat → Prop} (h : Frm noB w0 w) (h' : Frm F w w') (hF : ∀ k, F k → w0.heap.size ≤ k) : Frm noB w0 w' :=
  h.trans h' fun k hk hf => by have := hF k hf; omega
theorem Grow.ge {F F' : Nat → Prop} {w w' : World} {n : Nat} (h : Grow F F' w w') (hF : ∀ k, F k → n ≤ k) (hw : n ≤ w.heap.size) : ∀ k, F' k → n ≤ k := fun k hk => by
  rcases h k hk with h | h
  · exact hF k h
  · omega
/-- a block of bytes that has just been laid -/
theorem Rd.laid (w : World) (t : TypeId) (l : List UInt8) : Rd (w.alloc (.cells (l.map bv).toArray t)) (some ⟨w.heap.size, 0, none⟩) (l.map bv) := by
  intro i hi
  refine ⟨_, 0, rfl, ?_⟩
  rw [Nat.zero_add, cell_of_row _ _ i (l.map bv).toArray t (0, 0) (heap_alloc_new w _)]
  simp at hi
  simp [hi]
theorem Rd.laidI (w : World) (t : TypeId) (l : List Int) : Rd (w.alloc (.cells (l.map iv).toArray t)) (some ⟨w.heap.size, 0, none⟩) (l.map iv) := by
  intro i hi
  refine ⟨_, 0, rfl, ?_⟩
  rw [Nat.zero_add, cell_of_row _ _ i (l.map iv).toArray t (0, 0) (heap_alloc_new w _)]
  simp at hi
  simp [hi]

theorem Rd.laidI_at (w : World) (t : TypeId) (l : List Int) (n : Nat) (h : n = w.heap.size) : Rd (w.alloc (.cells (l.map iv).toArray t)) (some ⟨n, 0, none⟩) (l.map iv) := h ▸ Rd.laidI w t l
theorem Rd.laid_at (w : World) (t : TypeId) (l : List UInt8) (n : Nat) (h : n = w.heap.size) : Rd (w.alloc (.cells (l.map bv).toArray t)) (some ⟨n, 0, none⟩) (l.map bv) := h ▸ Rd.laid w t l

theorem two_any (kind : Int) (w : World) : Calls Try.prog 11 #[.int .i64 kind] w fun e w' => e = .returned (.int .i64 2) ∧ w' = w := by
  go_enter Try.func11, Try.ntmps11
  go_wp2
  go_ret
  exact ⟨rfl, rfl⟩
theorem two_calls (args : Array Value) (w : World) : (callFunc 11 args).run Try.prog w = .ok (.enter 11 args) w := by
  go_simp

/-- Open of an entry whose requests have two bytes -/
theorem open_two {w : World} {b : Nat} {F : Nat → Prop} {s : ES} (h : EntF w b (.func (.func 11) #[] #[]) s F) (kind round til : Int) :
    Calls Try.prog 12 #[.pointer (some ⟨b, 0, none⟩), .int .i64 kind, .int .u64 round, .int .i64 til] w fun e w' => e = .returned (.int .i64 (openErr s kind round)) ∧
      EntF w' b (.func (.func 11) #[] #[]) (if openErr s kind round = 0 then opened s kind round til 2 else s) F ∧ Frm F w w' :=
  (open_c h kind round til 2 (G := noB) (R := fun _ _ => True) two_calls (fun w0 _ => (two_any kind w0).mono fun e w' ⟨he, hw⟩ => ⟨he, hw ▸ Frm.refl _ _, trivial⟩) (fun _ h => h.elim)).mono
    fun e w' ⟨he, hE, hx⟩ => ⟨he, hE, by
      rcases hx with ⟨_, hf⟩ | ⟨_, w0, w1, f0, f1, _, f2⟩
      · exact hf.any
      · exact (f0.trans' f1.any).trans' f2⟩

theorem Len.of {n : Nat} (h : n ≤ 1000) : Len n := by unfold Len; omega

/-- younger than w0, and not set apart -/
def nN (w0 : World) (N : Nat → Prop) : Nat → Prop := fun k => w0.heap.size ≤ k ∧ ¬ N k
/-- an entry all of whose blocks are younger than w0 and not set apart (N); what w0 held is as it was -/
def Ent0 (w0 w : World) (b : Nat) (fv : Value) (s : ES) (N : Nat → Prop) : Prop := ∃ F, EntF w b fv s F ∧ (∀ k, F k → nN w0 N k) ∧ Frm noB w0 w
section
variable {w0 w : World} {b : Nat} {fv : Value} {s : ES} {N : Nat → Prop}
theorem Ent0.size (h : Ent0 w0 w b fv s N) : w0.heap.size ≤ w.heap.size := by
  obtain ⟨F, h1, h2, h3⟩ := h
  exact h3.size
theorem Ent0.old (h : Ent0 w0 w b fv s N) : Frm noB w0 w := by
  obtain ⟨F, h1, h2, h3⟩ := h
  exact h3
theorem Ent0.frm {w' : World} (h : Ent0 w0 w b fv s N) (hf : Frm noB w w') : Ent0 w0 w' b fv s N := by
  obtain ⟨F, h1, h2, h3⟩ := h
  exact ⟨F, h1.frm' hf, h2, h3.trans' hf⟩
/-- a write to what is set apart -/
theorem Ent0.put {w' : World} (h : Ent0 w0 w b fv s N) (hf : Frm N w w') (hN : ∀ k, N k → w0.heap.size ≤ k) : Ent0 w0 w' b fv s N := by
  obtain ⟨F, h1, h2, h3⟩ := h
  exact ⟨F, h1.frm hf fun k hk => (h2 k hk).2, h2, h3.old hf hN⟩
/-- more is set apart: what is new -/
theorem Ent0.more {M : Nat → Prop} (h : Ent0 w0 w b fv s N) (hM : ∀ k, M k → N k ∨ w.heap.size ≤ k ∨ k < w0.heap.size) : Ent0 w0 w b fv s M := by
  obtain ⟨F, h1, h2, h3⟩ := h
  refine ⟨F, h1, fun k hk => ⟨(h2 k hk).1, fun hm => ?_⟩, h3⟩
  have := (h2 k hk).1
  have := h1.lt k hk
  rcases hM k hm with h | h | h
  · exact (h2 k hk).2 h
  · omega
  · omega
theorem grow_nN {F F' : Nat → Prop} {w w' : World} (hg : Grow F F' w w') (hF : ∀ k, F k → nN w0 N k) (h0 : w0.heap.size ≤ w.heap.size) (hN : ∀ k, N k → k < w.heap.size) : ∀ k, F' k → nN w0 N k := fun k hk => by
  rcases hg k hk with h | h
  · exact hF k h
  · exact ⟨by omega, fun hn => by have := hN k hn; omega⟩
theorem sub0 (h : Ent0 w0 w b fv s N) (hN : ∀ k, N k → k < w.heap.size) (client : Int) (l : List UInt8) (A : Option Addr) (c : Nat) {w1 : World} (hw : Frm noB w w1) (hr : Rd w1 A (l.map bv)) (hA : ∀ k, aB A k → w.heap.size ≤ k ∨ k < w0.heap.size) (hL : Len l.length) :
    Calls Try.prog 13 #[.pointer (some ⟨b, 0, none⟩), .int .i64 client, .slice A l.length c] w1 fun e w' =>
      e = .returned (.int .i64 (subErr s client l)) ∧ Ent0 w0 w' b fv (subTo s client l) N ∧ Frm (nN w0 N) w1 w' := by
  obtain ⟨F, h1, h2, h3⟩ := h
  refine (sub_c (h1.frm' hw) client _ l c hr (fun k hk hF => ?_) hL).mono fun e w' ⟨he, F', hE, hf, hg⟩ =>
    ⟨he, ⟨F', hE, grow_nN hg h2 (Nat.le_trans h3.size hw.size) fun k hk => Nat.lt_of_lt_of_le (hN k hk) hw.size, (h3.trans' hw).old hf fun k hk => (h2 k hk).1⟩, hf.mono fun k _ hk => h2 k hk⟩
  have := h1.lt k hF
  have := (h2 k hF).1
  rcases hA k hk with h | h <;> omega
theorem open0 (h : Ent0 w0 w b (.func (.func 11) #[] #[]) s N) (kind round til : Int) :
    Calls Try.prog 12 #[.pointer (some ⟨b, 0, none⟩), .int .i64 kind, .int .u64 round, .int .i64 til] w fun e w' => e = .returned (.int .i64 (openErr s kind round)) ∧
      Ent0 w0 w' b (.func (.func 11) #[] #[]) (if openErr s kind round = 0 then opened s kind round til 2 else s) N ∧ Frm (nN w0 N) w w' := by
  obtain ⟨F, h1, h2, h3⟩ := h
  exact (open_two h1 kind round til).mono fun e w' ⟨he, hE, hf⟩ => ⟨he, ⟨F, hE, h2, h3.old hf fun k hk => (h2 k hk).1⟩, hf.mono fun k _ hk => h2 k hk⟩
theorem BatchOut.rows {w w' : World} {F F' : Nat → Prop} {who : List Int} {boxes : List (List UInt8)} {wo : Value} {A : Option Addr} {n c : Nat} {xs : List Value} (h : BatchOut w w' F F' who boxes wo (.slice A n c) xs) : n = boxes.length ∧ RdRows w' A boxes (fun k => F k ∧ ¬ F' k) := by
  have hn : n = xs.length := by
    have hr := h.row
    rcases hr.2 with ⟨e, h0⟩ | ⟨g, cap, cur, e, _⟩
    · injection e with _ e2 _; omega
    · injection e with _ e2 _
  subst hn
  have hb := h.box
  refine ⟨hb.1, xs, Rd.of_own h.row, hb.1, fun i hi hi' => ?_, fun _ k hk => ?_⟩
  · have := hb.2.1 i hi' hi
    obtain ⟨A', c', e, _⟩ := own_slice this
    rw [e] at this
    refine ⟨A', c', e, Rd.of_own this, fun _ k hk => h.inF k (.inr ⟨i, hi', ?_⟩)⟩
    rw [e]
    obtain ⟨a, rfl, rfl⟩ := hk
    rfl
  · obtain ⟨a, rfl, rfl⟩ := hk
    exact h.inF _ (.inl rfl)
/-- Close, of a round that is open -/
theorem close0 (h : Ent0 w0 w b fv s N) (hp : s.phase = 1) :
    Calls Try.prog 14 #[.pointer (some ⟨b, 0, none⟩)] w fun e w' => ∃ Aw cw Ax cx M, e = .returned (.tuple #[.agg #[.int .i64 s.kind, .int .u64 s.round, .slice Aw s.who.length cw, .slice Ax s.boxes.length cx], .int .i64 0]) ∧
      Rd w' Aw (s.who.map iv) ∧ (∀ k, aB Aw k → w.heap.size ≤ k ∧ k < w'.heap.size) ∧ RdRows w' Ax s.boxes M ∧ (∀ k, M k → nN w0 N k ∧ k < w'.heap.size) ∧ Ent0 w0 w' b fv (closed s) (fun k => N k ∨ M k ∨ aB Aw k) ∧ Frm (nN w0 N) w w' := by
  obtain ⟨F, h1, h2, h3⟩ := h
  refine (close_c h1).mono fun e w' hx => ?_
  rcases hx with ⟨h', _⟩ | ⟨_, F', wo, xv, xs, rfl, hE, hB, hf⟩
  · exact absurd hp h'
  · obtain ⟨Aw, cw, rfl, _⟩ := own_slice hB.wo_
    obtain ⟨Ax, cx, rfl, _⟩ := own_slice hB.row
    obtain ⟨hn, hr⟩ := hB.rows
    have hw : ∀ k, aB Aw k → w.heap.size ≤ k ∧ k < w'.heap.size := fun k ⟨a, ha, hk⟩ => own_lt hB.wo_ k (by subst ha; subst hk; rfl)
    refine ⟨Aw, cw, Ax, cx, _, by rw [hn], Rd.of_own hB.wo_, hw, hr, fun k hk => ⟨h2 k hk.1, by have := h1.lt k hk.1; have := hf.size; omega⟩, ⟨F', hE, fun k hk => ⟨(h2 k (hB.sub k hk)).1, fun hn => ?_⟩, h3.old hf fun k hk => (h2 k hk).1⟩, hf.mono fun k _ hk => h2 k hk⟩
    rcases hn with hn | hn | hn
    · exact (h2 k (hB.sub k hk)).2 hn
    · exact hn.2 hk
    · have := (hw k hn).1
      have := h1.lt k (hB.sub k hk)
      omega
theorem tick0 (h : Ent0 w0 w b fv s N) (now : Int) (hp : s.phase = 1) (hn : s.til ≤ now) :
    Calls Try.prog 29 #[.pointer (some ⟨b, 0, none⟩), .int .i64 now] w fun e w' => ∃ Aw cw Ax cx M, e = .returned (.tuple #[.agg #[.int .i64 s.kind, .int .u64 s.round, .slice Aw s.who.length cw, .slice Ax s.boxes.length cx], .bool true, .int .i64 0]) ∧
      Rd w' Aw (s.who.map iv) ∧ (∀ k, aB Aw k → w.heap.size ≤ k ∧ k < w'.heap.size) ∧ RdRows w' Ax s.boxes M ∧ (∀ k, M k → nN w0 N k ∧ k < w'.heap.size) ∧ Ent0 w0 w' b fv (closed s) (fun k => N k ∨ M k ∨ aB Aw k) ∧ Frm (nN w0 N) w w' := by
  obtain ⟨F, h1, h2, h3⟩ := h
  refine (tick_c h1 now).mono fun e w' hx => ?_
  rcases hx with ⟨h', _⟩ | ⟨_, F', wo, xv, xs, rfl, hE, hB, hf⟩
  · omega
  · obtain ⟨Aw, cw, rfl, _⟩ := own_slice hB.wo_
    obtain ⟨Ax, cx, rfl, _⟩ := own_slice hB.row
    obtain ⟨hn, hr⟩ := hB.rows
    have hw : ∀ k, aB Aw k → w.heap.size ≤ k ∧ k < w'.heap.size := fun k ⟨a, ha, hk⟩ => own_lt hB.wo_ k (by subst ha; subst hk; rfl)
    refine ⟨Aw, cw, Ax, cx, _, by rw [hn], Rd.of_own hB.wo_, hw, hr, fun k hk => ⟨h2 k hk.1, by have := h1.lt k hk.1; have := hf.size; omega⟩, ⟨F', hE, fun k hk => ⟨(h2 k (hB.sub k hk)).1, fun hn => ?_⟩, h3.old hf fun k hk => (h2 k hk).1⟩, hf.mono fun k _ hk => h2 k hk⟩
    rcases hn with hn | hn | hn
    · exact (h2 k (hB.sub k hk)).2 hn
    · exact hn.2 hk
    · have := (hw k hn).1
      have := h1.lt k (hB.sub k hk)
      omega
theorem closeNo0 (h : Ent0 w0 w b fv s N) (hp : s.phase ≠ 1) :
    Calls Try.prog 14 #[.pointer (some ⟨b, 0, none⟩)] w fun e w' => e = .returned (.tuple #[.agg #[.int .i64 0, .int .u64 0, .slice none 0 0, .slice none 0 0], .int .i64 251]) ∧ Ent0 w0 w' b fv s N ∧ Frm noB w w' := by
  obtain ⟨F, h1, h2, h3⟩ := h
  refine (close_c h1).mono fun e w' hx => ?_
  rcases hx with ⟨h', he, hE, hf⟩ | ⟨h', _⟩
  · exact ⟨he, ⟨F, hE, h2, h3.trans' hf⟩, hf⟩
  · exact absurd h' hp
theorem tickNo0 (h : Ent0 w0 w b fv s N) (now : Int) (hp : s.phase ≠ 1 ∨ now < s.til) :
    Calls Try.prog 29 #[.pointer (some ⟨b, 0, none⟩), .int .i64 now] w fun e w' => e = .returned (.tuple #[.agg #[.int .i64 0, .int .u64 0, .slice none 0 0, .slice none 0 0], .bool false, .int .i64 0]) ∧ Ent0 w0 w' b fv s N ∧ Frm noB w w' := by
  obtain ⟨F, h1, h2, h3⟩ := h
  refine (tick_c h1 now).mono fun e w' hx => ?_
  rcases hx with ⟨h', he, hE, hf⟩ | ⟨h', _⟩
  · exact ⟨he, ⟨F, hE, h2, h3.trans' hf⟩, hf⟩
  · omega
theorem ans0 (h : Ent0 w0 w b fv s N) (hN : ∀ k, N k → k < w.heap.size) (A : Option Addr) (reps : List (List UInt8)) (c : Nat) {w1 : World} (hw : Frm noB w w1) {M : Nat → Prop} (hA : RdRows w1 A reps M) (hM : ∀ k, M k → N k ∨ w.heap.size ≤ k ∨ k < w0.heap.size) (hL : ∀ l ∈ reps, Len l.length) :
    Calls Try.prog 15 #[.pointer (some ⟨b, 0, none⟩), .slice A reps.length c] w1 fun e w' =>
      e = .returned (.int .i64 (ansErr s reps.length)) ∧ Ent0 w0 w' b fv (if ansErr s reps.length = 0 then answered s reps else s) N ∧ Frm (nN w0 N) w1 w' := by
  obtain ⟨F, h1, h2, h3⟩ := h
  refine (ans_c (h1.frm' hw) A reps c (hA.mono fun k hk hF => ?_) hL).mono fun e w' ⟨he, F', hE, hf, hg⟩ =>
    ⟨he, ⟨F', hE, grow_nN hg h2 (Nat.le_trans h3.size hw.size) fun k hk => Nat.lt_of_lt_of_le (hN k hk) hw.size, (h3.trans' hw).old hf fun k hk => (h2 k hk).1⟩, hf.mono fun k _ hk => h2 k hk⟩
  have := h1.lt k hF
  have h4 := h2 k hF
  rcases hM k hk with h | h | h
  · exact h4.2 h
  · omega
  · have := h4.1; omega
/-- what a client is given, as a value -/
structure Gives (w' : World) (r : Option (List UInt8)) (A : Option Addr) (c : Nat) : Prop where
  rd : Rd w' A ((r.getD []).map bv)
  own : (r = none ∧ A = none ∧ c = 0) ∨ w'.ownsRow 0 5 1 (.slice A (r.getD []).length c) (r.getD []).length ((r.getD []).map bv)
theorem col0 (h : Ent0 w0 w b fv s N) (client : Int) (hc : 0 ≤ client ∧ client < s.clients) :
    Calls Try.prog 21 #[.pointer (some ⟨b, 0, none⟩), .int .i64 client] w fun e w' => ∃ A c, e = .returned (.tuple #[.slice A ((s.replies client).getD []).length c, .bool (s.replies client).isSome, .int .i64 0]) ∧
      Gives w' (s.replies client) A c ∧ (∀ k, aB A k → nN w0 N k ∧ k < w.heap.size) ∧ Ent0 w0 w' b fv (collected s client) (fun k => N k ∨ aB A k) ∧ Frm (nN w0 N) w w' := by
  obtain ⟨F, h1, h2, h3⟩ := h
  refine (col_c h1 client).mono fun e w' hx => ?_
  rcases hx with ⟨h', _⟩ | ⟨_, F', v, yes, rfl, hE, hG, hsub, hf⟩
  · exact absurd hc h'
  · have fin : ∀ A : Option Addr, (∀ k, aB A k → F k ∧ ¬ F' k) → (∀ k, aB A k → nN w0 N k ∧ k < w.heap.size) ∧ Ent0 w0 w' b fv (collected s client) (fun k => N k ∨ aB A k) ∧ Frm (nN w0 N) w w' := fun A hA =>
      ⟨fun k hk => ⟨h2 k (hA k hk).1, h1.lt k (hA k hk).1⟩, ⟨F', hE, fun k hk => ⟨(h2 k (hsub k hk)).1, fun hn => by
        rcases hn with hn | hn
        · exact (h2 k (hsub k hk)).2 hn
        · exact (hA k hn).2 hk⟩, h3.old hf fun k hk => (h2 k hk).1⟩, hf.mono fun k _ hk => h2 k hk⟩
    rcases hG with ⟨e1, rfl, rfl⟩ | ⟨l, e1, rfl, ho, hF⟩
    · refine ⟨none, 0, by rw [e1]; rfl, ⟨by rw [e1]; exact Rd.nil _ _, .inl ⟨e1, rfl, rfl⟩⟩, fin none fun k ⟨a, ha, _⟩ => by cases ha⟩
    · obtain ⟨A, c, rfl, _⟩ := own_slice ho
      refine ⟨A, c, by rw [e1]; rfl, ⟨by rw [e1]; exact Rd.of_own ho, .inr (by rw [e1]; exact ho)⟩, fin A fun k ⟨a, ha, hk⟩ => hF k (by subst ha; subst hk; rfl)⟩
theorem new0 (fn : Fn) (fc : Array Value) (c m : Int) (w : World) (h : 1 ≤ c ∧ c ≤ 64 ∧ 1 ≤ m ∧ m ≤ 256) :
    Calls Try.prog 10 #[.func fn #[] fc, .int .i64 c, .int .i64 m] w fun e w' => ∃ b, e = .returned (.tuple #[.pointer (some ⟨b, 0, none⟩), .int .i64 0]) ∧ Ent0 w w' b (.func fn #[] fc) (es0 c m) noB ∧ Frm noB w w' :=
  (new_c fn fc c m w h).mono fun _ _ ⟨b, F, he, hE, hF, hf⟩ => ⟨b, he, ⟨F, hE, fun k hk => ⟨hF k hk, fun h => h⟩, hf⟩, hf⟩
end

/-- lists of bytes that have just been laid: one row -/
theorem laid1 (w : World) (l : List UInt8) (c : Nat) : RdRows ((w.alloc (.cells (l.map bv).toArray 5)).alloc (.cells #[.slice (some ⟨w.heap.size, 0, none⟩) l.length c] 35)) (some ⟨w.heap.size + 1, 0, none⟩) [l] (fun k => w.heap.size ≤ k) := by
  have h1 := Rd.laid w 5 l
  refine ⟨[.slice (some ⟨w.heap.size, 0, none⟩) l.length c], ?_, rfl, fun i hi hi' => ?_, fun _ k ⟨a, ha, hk⟩ => ?_⟩
  · intro i hi
    have : i = 0 := by simp at hi; omega
    subst this
    refine ⟨w.heap.size + 1, 0, rfl, ?_⟩
    have h := cell_of_row ((w.alloc (.cells (l.map bv).toArray 5)).alloc (.cells #[.slice (some ⟨w.heap.size, 0, none⟩) l.length c] 35)) (w.heap.size + 1) 0 #[.slice (some ⟨w.heap.size, 0, none⟩) l.length c] 35 (0, 0)
      (by have := heap_alloc_new (w.alloc (.cells (l.map bv).toArray 5)) (.cells #[.slice (some ⟨w.heap.size, 0, none⟩) l.length c] 35); simpa using this)
    rw [Nat.zero_add, h]
    rfl
  · have : i = 0 := by simp at hi; omega
    subst this
    refine ⟨some ⟨w.heap.size, 0, none⟩, c, rfl, h1.alloc _, fun _ k ⟨a, ha, hk⟩ => ?_⟩
    cases ha
    simp at hk
    omega
  · cases ha
    simp at hk
    omega

set_option maxHeartbeats 2000000 in
theorem awake_any (w : World) : Calls Try.prog 8 #[] w fun e w' => e = .returned (.bool true) ∧ Frm noB w w' := by
  go_enter Try.func8, Try.ntmps8
  go_wp2_with fail
  refine (new0 (.func 11) #[] 3 2 w (by decide)).mono ?_
  rintro e w1 ⟨b, rfl, hE, _⟩
  have HE1 := Lib.hid hE
  clear hE
  go_wp2_with fail
  refine (sub0 HE1.out (fun _ h => h.elim) 1 [1, 2] (some ⟨w1.heap.size, 0, none⟩) 2 ((Frm.refl _ _).alloc _) (Rd.laid w1 5 [1, 2]) (fun k ⟨a, ha, hk⟩ => by cases ha; simp at hk; omega) (Len.of (by decide))).mono ?_
  rintro e w2 ⟨rfl, hE, _⟩
  have HE2 := Lib.hid hE
  clear hE HE1
  rw [show subErr (es0 3 2) 1 [1, 2] = 290 from rfl]
  go_wp2_with fail
  refine (open0 HE2.out 1 7 0).mono ?_
  rintro e w3 ⟨rfl, hE, _⟩
  have HE3 : Hid (Ent0 w w3 b _ (opened (es0 3 2) 1 7 0 2) noB) := hE
  clear hE HE2
  rw [show openErr (subTo (es0 3 2) 1 [1, 2]) 1 7 = 0 from rfl]
  go_wp2_with fail
  refine (sub0 HE3.out (fun _ h => h.elim) 1 [1, 2] (some ⟨w3.heap.size, 0, none⟩) 2 ((Frm.refl _ _).alloc _) (Rd.laid w3 5 [1, 2]) (fun k ⟨a, ha, hk⟩ => by cases ha; simp at hk; omega) (Len.of (by decide))).mono ?_
  rintro e w4 ⟨rfl, hE, _⟩
  have HE4 : Hid (Ent0 w w4 b _ (taken (opened (es0 3 2) 1 7 0 2) 1 [1, 2]) noB) := hE
  clear hE HE3
  rw [show subErr (opened (es0 3 2) 1 7 0 2) 1 [1, 2] = 0 from rfl]
  go_wp2_with fail
  refine (close0 HE4.out rfl).mono ?_
  rintro e w5 ⟨Aw, cw, Ax, cx, M, rfl, hW, _, hX, _, hE, _⟩
  replace hE := hE.more (M := noB) fun _ h => h.elim
  have HE5 : Hid (Ent0 w w5 b _ (closed (taken (opened (es0 3 2) 1 7 0 2) 1 [1, 2])) noB) := hE
  have HW5 : Hid (Rd w5 Aw ([1].map iv)) := hW
  have HX5 : Hid (RdRows w5 Ax [[1, 2]] M) := hX
  clear hE HE4 hW hX
  go_wp2_with fail
  have BV := Lib.hid (Blk.new w5 39 #[.int .i64 1, .int .u64 7, .slice Aw 1 cw, .slice Ax 1 cx])
  have f6 : Frm noB w5 ((w5.alloc (.cells #[.int .i64 1, .int .u64 7, .slice Aw 1 cw, .slice Ax 1 cx] 39)).alloc (.cells #[.int .i64 1] 3)) := ((Frm.refl _ _).alloc _).alloc _
  refine (eqInts_any Aw (some ⟨w5.heap.size + 1, 0, none⟩) [1] [1] cw 1 _ (HW5.out.frm' f6) (Rd.laidI_at (w5.alloc (.cells #[.int .i64 1, .int .u64 7, .slice Aw 1 cw, .slice Ax 1 cx] 39)) 3 [1] _ (by simp)) (Len.of (by decide)) (Len.of (by decide))).mono ?_
  rintro e w6 ⟨rfl, hf6⟩
  rw [show eql [(1 : Int)] [1] = true from rfl]
  have b6 := (BV.out.alloc (.cells #[.int .i64 1] 3)).frm' hf6
  have c63 := b6.cell 3
  simp at c63
  have HB6 := Lib.hid b6
  have HF6 := Lib.hid (f6.trans' hf6)
  clear b6 hf6 f6
  go_wp2_with fail
  have f7 : Frm noB w6 ((w6.alloc (.cells #[.int .u8 1, .int .u8 2] 5)).alloc (.cells #[.slice (some ⟨w6.heap.size, 0, none⟩) 2 2] 35)) := ((Frm.refl _ _).alloc _).alloc _
  refine (eqRows_any Ax (some ⟨w6.heap.size + 1, 0, none⟩) [[1, 2]] [[1, 2]] cx 1 _ ((HX5.out.frm' HF6.out).frm' f7) (laid1 w6 [1, 2] 2) (Len.of (by decide)) (Len.of (by decide)) (by intro l hl; simp at hl; subst hl; exact Len.of (by decide)) (by intro l hl; simp at hl; subst hl; exact Len.of (by decide))).mono ?_
  rintro e w7 ⟨rfl, hf7⟩
  rw [show eql [[(1 : UInt8), 2]] [[1, 2]] = true from rfl]
  have HE7 := Lib.hid (HE5.out.frm (HF6.out.trans' (f7.trans' hf7)))
  clear c63 f7 hf7
  go_wp2_with fail
  refine (ans0 HE7.out (fun _ h => h.elim) (some ⟨w7.heap.size + 1, 0, none⟩) [[9]] 1 (((Frm.refl noB w7).alloc _).alloc _) (laid1 w7 [9] 1) (fun k hk => .inr (.inl hk)) (by intro l hl; simp at hl; subst hl; exact Len.of (by decide))).mono ?_
  rintro e w8 ⟨rfl, hE, _⟩
  have HE8 : Hid (Ent0 w w8 b _ (answered (closed (taken (opened (es0 3 2) 1 7 0 2) 1 [1, 2])) [[9]]) noB) := hE
  clear hE
  rw [show ansErr (closed (taken (opened (es0 3 2) 1 7 0 2) 1 [1, 2])) [[(9 : UInt8)]].length = 0 from rfl]
  go_wp2_with fail
  refine (col0 HE8.out 1 (by decide)).mono ?_
  rintro e w9 ⟨A9, c9, rfl, hG, hA9, hE, hf9⟩
  have hr9 := hG.rd
  have HA9 := Lib.hid fun k hk => (hA9 k hk).2
  have HF9 := Lib.hid hf9.size
  clear hG hA9 hf9
  have HE9 := Lib.hid hE
  have HR9 : Hid (Rd w9 A9 ([9].map bv)) := hr9
  clear hE hr9
  rw [show ((answered (closed (taken (opened (es0 3 2) 1 7 0 2) 1 [1, 2])) [[9]]).replies 1).isSome = true from rfl, show (((answered (closed (taken (opened (es0 3 2) 1 7 0 2) 1 [1, 2])) [[9]]).replies 1).getD []).length = 1 from rfl]
  go_wp2_with fail
  refine (col0 HE9.out 0 (by decide)).mono ?_
  rintro e wA ⟨AA, cA, rfl, hG, _, hE, hfA⟩
  have HEA := Lib.hid hE
  rw [show ((collected (answered (closed (taken (opened (es0 3 2) 1 7 0 2) 1 [1, 2])) [[9]]) 1).replies 0).isSome = false from rfl, show (((collected (answered (closed (taken (opened (es0 3 2) 1 7 0 2) 1 [1, 2])) [[9]]) 1).replies 0).getD []).length = 0 from rfl]
  have HRA := Lib.hid (HR9.out.frm hfA fun k hk h => h.2 (.inr hk))
  clear hE hG hfA
  go_wp2_with fail
  refine (eqBytes_any A9 (some ⟨wA.heap.size, 0, none⟩) [9] [9] c9 1 _ (HRA.out.alloc _) (Rd.laid wA 5 [9]) (Len.of (by decide)) (Len.of (by decide))).mono ?_
  rintro e wB ⟨rfl, hfB⟩
  rw [show eql [(9 : UInt8)] [9] = true from rfl]
  have HEB := Lib.hid ((HEA.out.frm ((Frm.refl _ _).alloc _)).frm hfB)
  clear hfB
  go_wp2_with fail
  go_ret
  exact ⟨rfl, HEB.out.old⟩
end Go.Proofs.Ytjnoddbhfcpniaa
