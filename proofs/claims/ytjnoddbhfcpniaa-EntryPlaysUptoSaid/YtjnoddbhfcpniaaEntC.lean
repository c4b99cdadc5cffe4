/-
  The entry's contracts, one a method, whatever its state.
-/
import Derived.Test.YtjnoddbhfcpniaaEntAns
import Derived.Test.YtjnoddbhfcpniaaOwn
namespace Go.Proofs.Ytjnoddbhfcpniaa
open Go.RowKit
set_option linter.unusedVariables false
set_option linter.unusedSimpArgs false

/-- block b is an entry in the state s; F: its blocks -/
def EntF (w : World) (b : Nat) (fv : Value) (s : ES) (F : Nat → Prop) : Prop :=
  ∃ ma mr wv xv xs rv, IsE w b F fv s ma mr wv xv xs rv

def subErr (s : ES) (c : Int) (l : List UInt8) : Int :=
  if ¬ (0 ≤ c ∧ c < s.clients) then 292 else if s.phase ≠ 1 then 290 else if (mget s.asked c).isSome then 291 else if (l.length : Int) ≠ s.length then 4 else if s.most ≤ s.who.length then 252 else 0
def subTo (s : ES) (c : Int) (l : List UInt8) : ES := if subErr s c l = 0 then taken s c l else s
def openErr (s : ES) (kind round : Int) : Int := if ¬ (kind = 1 ∨ kind = 2) then 253 else if round = 0 then 2 else if s.phase = 1 then 251 else 0
def ansErr (s : ES) (n : Nat) : Int := if s.phase ≠ 2 then 251 else if n ≠ s.who.length then 4 else 0

section
variable {w : World} {b : Nat} {F : Nat → Prop} {fv : Value} {s : ES}

theorem EntF.frm {S : Nat → Prop} {w' : World} (h : EntF w b fv s F) (hf : Frm S w w') (hS : ∀ k, F k → ¬ S k) : EntF w' b fv s F := by
  obtain ⟨ma, mr, wv, xv, xs, rv, h⟩ := h
  exact ⟨ma, mr, wv, xv, xs, rv, h.frm hf hS⟩
theorem EntF.frm' {w' : World} (h : EntF w b fv s F) (hf : Frm noB w w') : EntF w' b fv s F := h.frm hf fun _ _ h => h
theorem EntF.lt (h : EntF w b fv s F) : ∀ k, F k → k < w.heap.size := by
  obtain ⟨ma, mr, wv, xv, xs, rv, h⟩ := h
  exact h.lt
theorem EntF.alloc (h : EntF w b fv s F) (o : Obj) : EntF (w.alloc o) b fv s F := h.frm' ((Frm.refl _ _).alloc o)
theorem EntF.ph (h : EntF w b fv s F) : s.phase = 0 ∨ s.phase = 1 ∨ s.phase = 2 := by
  obtain ⟨ma, mr, wv, xv, xs, rv, h⟩ := h
  exact h.ph
theorem EntF.ln (h : EntF w b fv s F) : (s.who.length : Int) ≤ s.most ∧ s.most ≤ 256 := by
  obtain ⟨ma, mr, wv, xv, xs, rv, h⟩ := h
  exact ⟨h.ln, h.mo.2⟩
theorem Grow.refl (F : Nat → Prop) (w w' : World) : Grow F F w w' := fun k h => .inl h

theorem new_c (fn : Fn) (fc : Array Value) (c m : Int) (w : World) (h : 1 ≤ c ∧ c ≤ 64 ∧ 1 ≤ m ∧ m ≤ 256) :
    Calls Try.prog 10 #[.func fn #[] fc, .int .i64 c, .int .i64 m] w fun e w' => ∃ b F, e = .returned (.tuple #[.pointer (some ⟨b, 0, none⟩), .int .i64 0]) ∧
      EntF w' b (.func fn #[] fc) (es0 c m) F ∧ (∀ k, F k → w.heap.size ≤ k) ∧ Frm noB w w' :=
  (new_yes fn fc c m w h).mono fun _ _ ⟨b, ma, mr, he, hE, hf⟩ => ⟨b, _, he, ⟨ma, mr, _, _, _, _, hE⟩, fun _ hk => hk.1, hf⟩

theorem sub_c (h : EntF w b fv s F) (client : Int) (A : Option Addr) (l : List UInt8) (c : Nat) (hl : Rd w A (l.map bv)) (hA : ∀ k, aB A k → ¬ F k) (hL : Len l.length) :
    Calls Try.prog 13 #[.pointer (some ⟨b, 0, none⟩), .int .i64 client, .slice A l.length c] w fun e w' =>
      e = .returned (.int .i64 (subErr s client l)) ∧ ∃ F', EntF w' b fv (subTo s client l) F' ∧ Frm F w w' ∧ Grow F F' w w' := by
  obtain ⟨ma, mr, wv, xv, xs, rv, h⟩ := h
  have no : ∀ n, subErr s client l = n → n ≠ 0 → ∀ e w', SubNo w n e w' → e = .returned (.int .i64 (subErr s client l)) ∧ ∃ F', EntF w' b fv (subTo s client l) F' ∧ Frm F w w' ∧ Grow F F' w w' := by
    rintro n hn h0 e w' ⟨rfl, hf⟩
    refine ⟨by rw [hn], F, ⟨ma, mr, wv, xv, xs, rv, ?_⟩, hf.any, Grow.refl _ _ _⟩
    rw [show subTo s client l = s from by unfold subTo; rw [if_neg (by rw [hn]; exact h0)]]
    exact h.frm' hf
  by_cases h1 : 0 ≤ client ∧ client < s.clients
  · by_cases h2 : s.phase = 1
    · by_cases h3 : (mget s.asked client).isSome = true
      · exact (sub_twice h client A l.length c h1 h2 h3).mono (no 291 (by unfold subErr; rw [if_neg (by simpa using h1), if_neg (by simpa using h2), if_pos h3]) (by decide))
      · have h3' : (mget s.asked client).isSome = false := by simpa using h3
        by_cases h4 : (l.length : Int) = s.length
        · by_cases h5 : s.most ≤ s.who.length
          · exact (sub_batch h client A l.length c h1 h2 h3' h4 h5).mono (no 252 (by unfold subErr; rw [if_neg (by simpa using h1), if_neg (by simpa using h2), if_neg h3, if_neg (by simpa using h4), if_pos h5]) (by decide))
          · have e0 : subErr s client l = 0 := by unfold subErr; rw [if_neg (by simpa using h1), if_neg (by simpa using h2), if_neg h3, if_neg (by simpa using h4), if_neg h5]
            refine (sub_ok h client A l c hl hA hL h1 h2 h3' h4 (by omega)).mono fun e w' ⟨he, F', wv', xv', xs', hE, hf, hg⟩ => ⟨by rw [e0]; exact he, F', ⟨ma, mr, wv', xv', xs', rv, ?_⟩, hf, hg⟩
            rw [show subTo s client l = taken s client l from by unfold subTo; rw [if_pos e0]]
            exact hE
        · exact (sub_length h client A l.length c h1 h2 h3' h4).mono (no 4 (by unfold subErr; rw [if_neg (by simpa using h1), if_neg (by simpa using h2), if_neg h3, if_pos h4]) (by decide))
    · exact (sub_late h client A l.length c h1 h2).mono (no 290 (by unfold subErr; rw [if_neg (by simpa using h1), if_pos h2]) (by decide))
  · exact (sub_client h client A l.length c (by omega)).mono (no 292 (by unfold subErr; rw [if_pos h1]) (by decide))

theorem open_c {fid : Nat} {fc : Array Value} (h : EntF w b (.func (.func fid) #[] fc) s F) (kind round til len : Int) {G : Nat → Prop} {R : World → World → Prop}
    (hcf : ∀ args w, (callFunc fid args).run Try.prog w = .ok (.enter fid args) w)
    (hz : ∀ w0, Frm F w w0 → Calls Try.prog fid (#[.int .i64 kind] ++ fc) w0 fun e w' => e = .returned (.int .i64 len) ∧ Frm G w0 w' ∧ R w0 w') (hG : ∀ k, G k → ¬ F k) :
    Calls Try.prog 12 #[.pointer (some ⟨b, 0, none⟩), .int .i64 kind, .int .u64 round, .int .i64 til] w fun e w' => e = .returned (.int .i64 (openErr s kind round)) ∧
      EntF w' b (.func (.func fid) #[] fc) (if openErr s kind round = 0 then opened s kind round til len else s) F ∧
      ((openErr s kind round ≠ 0 ∧ Frm noB w w') ∨ (openErr s kind round = 0 ∧ ∃ w0 w1, Frm F w w0 ∧ Frm G w0 w1 ∧ R w0 w1 ∧ Frm F w1 w')) := by
  obtain ⟨ma, mr, wv, xv, xs, rv, h⟩ := h
  have no : ∀ n, openErr s kind round = n → n ≠ 0 → ∀ e w', SubNo w n e w' → e = .returned (.int .i64 (openErr s kind round)) ∧
      EntF w' b (.func (.func fid) #[] fc) (if openErr s kind round = 0 then opened s kind round til len else s) F ∧
      ((openErr s kind round ≠ 0 ∧ Frm noB w w') ∨ (openErr s kind round = 0 ∧ ∃ w0 w1, Frm F w w0 ∧ Frm G w0 w1 ∧ R w0 w1 ∧ Frm F w1 w')) := by
    rintro n hn h0 e w' ⟨rfl, hf⟩
    refine ⟨by rw [hn], ?_, .inl ⟨by rw [hn]; exact h0, hf⟩⟩
    rw [if_neg (by rw [hn]; exact h0)]
    exact ⟨ma, mr, wv, xv, xs, rv, h.frm' hf⟩
  by_cases h1 : kind = 1 ∨ kind = 2
  · by_cases h2 : round = 0
    · subst h2
      exact (open_zero h kind til h1).mono (no 2 (by unfold openErr; rw [if_neg (fun h => h h1), if_pos rfl]) (by decide))
    · by_cases h3 : s.phase = 1
      · exact (open_state h kind round til h1 h2 h3).mono (no 251 (by unfold openErr; rw [if_neg (fun h => h h1), if_neg h2, if_pos h3]) (by decide))
      · have e0 : openErr s kind round = 0 := by unfold openErr; rw [if_neg (fun h => h h1), if_neg h2, if_neg h3]
        refine (open_ok h kind round til len h1 h2 h3 hcf hz hG).mono fun e w' ⟨he, hE, hx⟩ => ⟨by rw [e0]; exact he, ?_, .inr ⟨e0, hx⟩⟩
        rw [if_pos e0]
        exact ⟨ma, mr, _, _, _, rv, hE⟩
  · exact (open_kind h kind round til (by omega)).mono (no 253 (by unfold openErr; rw [if_pos h1]) (by decide))

/-- a batch as it is handed out: who, boxes in rows of their own, which the entry keeps no more -/
structure BatchOut (w w' : World) (F F' : Nat → Prop) (who : List Int) (boxes : List (List UInt8)) (wo xv : Value) (xs : List Value) : Prop where
  wo_ : w'.ownsRow w.heap.size 3 1 wo who.length (who.map iv)
  row : w'.ownsRow 0 35 1 xv xs.length xs
  box : OwnRows w' xs boxes
  inF : ∀ k, (oB xv k ∨ ∃ i, ∃ h : i < xs.length, oB xs[i] k) → F k ∧ ¬ F' k
  sub : ∀ k, F' k → F k

theorem close_c (h : EntF w b fv s F) :
    Calls Try.prog 14 #[.pointer (some ⟨b, 0, none⟩)] w fun e w' =>
      (s.phase ≠ 1 ∧ e = .returned (.tuple #[.agg #[.int .i64 0, .int .u64 0, .slice none 0 0, .slice none 0 0], .int .i64 251]) ∧ EntF w' b fv s F ∧ Frm noB w w') ∨
      (s.phase = 1 ∧ ∃ F' wo xv xs, e = .returned (.tuple #[.agg #[.int .i64 s.kind, .int .u64 s.round, wo, xv], .int .i64 0]) ∧ EntF w' b fv (closed s) F' ∧ BatchOut w w' F F' s.who s.boxes wo xv xs ∧ Frm F w w') := by
  obtain ⟨ma, mr, wv, xv, xs, rv, h⟩ := h
  by_cases h1 : s.phase = 1
  · refine (close_ok h h1).mono fun e w' ⟨wo, F', he, hw, hr, hb, hE, hF', hf⟩ => .inr ⟨h1, F', wo, xv, xs, he, ⟨ma, mr, _, _, _, _, hE⟩, ⟨hw, hr, hb, fun k hk => ?_, fun k hk => (hF' k hk).1⟩, hf⟩
    rcases hk with hk | ⟨i, hi, hk⟩
    · exact ⟨h.fx k hk, fun hk' => (hF' k hk').2.1 hk⟩
    · exact ⟨h.fi i hi k hk, fun hk' => (hF' k hk').2.2 i hi hk⟩
  · exact (close_no h h1).mono fun e w' ⟨he, hf⟩ => .inl ⟨h1, he, ⟨ma, mr, wv, xv, xs, rv, h.frm' hf⟩, hf⟩

theorem tick_c (h : EntF w b fv s F) (now : Int) :
    Calls Try.prog 29 #[.pointer (some ⟨b, 0, none⟩), .int .i64 now] w fun e w' =>
      ((s.phase ≠ 1 ∨ now < s.til) ∧ e = .returned (.tuple #[.agg #[.int .i64 0, .int .u64 0, .slice none 0 0, .slice none 0 0], .bool false, .int .i64 0]) ∧ EntF w' b fv s F ∧ Frm noB w w') ∨
      ((s.phase = 1 ∧ s.til ≤ now) ∧ ∃ F' wo xv xs, e = .returned (.tuple #[.agg #[.int .i64 s.kind, .int .u64 s.round, wo, xv], .bool true, .int .i64 0]) ∧ EntF w' b fv (closed s) F' ∧ BatchOut w w' F F' s.who s.boxes wo xv xs ∧ Frm F w w') := by
  obtain ⟨ma, mr, wv, xv, xs, rv, h⟩ := h
  by_cases h1 : s.phase = 1 ∧ s.til ≤ now
  · refine (tick_yes h now h1.1 h1.2).mono fun e w' ⟨wo, F', he, hw, hr, hb, hE, hF', hf⟩ => .inr ⟨h1, F', wo, xv, xs, he, ⟨ma, mr, _, _, _, _, hE⟩, ⟨hw, hr, hb, fun k hk => ?_, fun k hk => (hF' k hk).1⟩, hf⟩
    rcases hk with hk | ⟨i, hi, hk⟩
    · exact ⟨h.fx k hk, fun hk' => (hF' k hk').2.1 hk⟩
    · exact ⟨h.fi i hi k hk, fun hk' => (hF' k hk').2.2 i hi hk⟩
  · have h2 : s.phase ≠ 1 ∨ now < s.til := by omega
    exact (tick_no h now h2).mono fun e w' ⟨he, hf⟩ => .inl ⟨h2, he, ⟨ma, mr, wv, xv, xs, rv, h.frm' hf⟩, hf⟩

theorem ans_c (h : EntF w b fv s F) (A : Option Addr) (reps : List (List UInt8)) (c : Nat) (hA : RdRows w A reps (fun k => ¬ F k)) (hL : ∀ l ∈ reps, Len l.length) :
    Calls Try.prog 15 #[.pointer (some ⟨b, 0, none⟩), .slice A reps.length c] w fun e w' =>
      e = .returned (.int .i64 (ansErr s reps.length)) ∧ ∃ F', EntF w' b fv (if ansErr s reps.length = 0 then answered s reps else s) F' ∧ Frm F w w' ∧ Grow F F' w w' := by
  obtain ⟨ma, mr, wv, xv, xs, rv, h⟩ := h
  have no : ∀ n, ansErr s reps.length = n → n ≠ 0 → ∀ e w', SubNo w n e w' → e = .returned (.int .i64 (ansErr s reps.length)) ∧ ∃ F', EntF w' b fv (if ansErr s reps.length = 0 then answered s reps else s) F' ∧ Frm F w w' ∧ Grow F F' w w' := by
    rintro n hn h0 e w' ⟨rfl, hf⟩
    refine ⟨by rw [hn], F, ?_, hf.any, Grow.refl _ _ _⟩
    rw [if_neg (by rw [hn]; exact h0)]
    exact ⟨ma, mr, wv, xv, xs, rv, h.frm' hf⟩
  by_cases h1 : s.phase = 2
  · by_cases h2 : reps.length = s.who.length
    · have e0 : ansErr s reps.length = 0 := by unfold ansErr; rw [if_neg (by simpa using h1), if_neg (by simpa using h2)]
      refine (ans_ok h A reps c hA h1 h2 hL).mono fun e w' ⟨he, F', rv', hE, hf, hg, _⟩ => ⟨by rw [e0]; exact he, F', ?_, hf, hg⟩
      rw [if_pos e0]
      exact ⟨ma, mr, wv, xv, xs, rv', hE⟩
    · exact (ans_length h A reps.length c h1 h2).mono (no 4 (by unfold ansErr; rw [if_neg (by simpa using h1), if_pos h2]) (by decide))
  · exact (ans_state h A reps.length c h1).mono (no 251 (by unfold ansErr; rw [if_pos h1]) (by decide))

/-- what a client is given: a reply in a row of its own, which the entry keeps no more; or nothing -/
def Given (w' : World) (F F' : Nat → Prop) (r : Option (List UInt8)) (v : Value) (yes : Bool) : Prop :=
  (r = none ∧ v = .slice none 0 0 ∧ yes = false) ∨ (∃ l, r = some l ∧ yes = true ∧ w'.ownsRow 0 5 1 v l.length (l.map bv) ∧ ∀ k, oB v k → F k ∧ ¬ F' k)

theorem col_c (h : EntF w b fv s F) (client : Int) :
    Calls Try.prog 21 #[.pointer (some ⟨b, 0, none⟩), .int .i64 client] w fun e w' =>
      (¬ (0 ≤ client ∧ client < s.clients) ∧ e = .returned (.tuple #[.slice none 0 0, .bool false, .int .i64 292]) ∧ EntF w' b fv s F ∧ Frm noB w w') ∨
      ((0 ≤ client ∧ client < s.clients) ∧ ∃ F' v yes, e = .returned (.tuple #[v, .bool yes, .int .i64 0]) ∧ EntF w' b fv (collected s client) F' ∧ Given w' F F' (s.replies client) v yes ∧ (∀ k, F' k → F k) ∧ Frm F w w') := by
  obtain ⟨ma, mr, wv, xv, xs, rv, h⟩ := h
  by_cases h1 : 0 ≤ client ∧ client < s.clients
  · refine (col_ok h client h1).mono fun e w' ⟨he, hE, hf, hf'⟩ => .inr ⟨h1, _, _, _, he, ⟨ma, mr, _, _, _, _, hE⟩, ?_, fun k hk => hk.1, hf⟩
    rcases h.rpl.at_ client with ⟨e1, e2⟩ | ⟨v, l, e1, e2, ho⟩
    · exact .inl ⟨e2, by rw [e1]; rfl, by rw [e1]; rfl⟩
    · refine .inr ⟨l, e2, by rw [e1]; rfl, ?_, fun k hk => ?_⟩
      · rw [e1]
        exact own_frm ho hf' fun k hk => (h.sep.r1 client v k e1 hk).2.2.1
      · rw [e1] at hk
        exact ⟨h.fp client v k e1 hk, fun hk' => hk'.2 v e1 hk⟩
  · exact (col_no h client (by omega)).mono fun e w' ⟨he, hf⟩ => .inl ⟨h1, he, ⟨ma, mr, wv, xv, xs, rv, h.frm' hf⟩, hf⟩
end
end Go.Proofs.Ytjnoddbhfcpniaa
