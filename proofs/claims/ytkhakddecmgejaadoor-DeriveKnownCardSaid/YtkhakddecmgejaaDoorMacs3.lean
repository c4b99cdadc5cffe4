/-
  Three Macs, and three texts of the call's own.
-/
import Derived.Test.YtkhakddecmgejaaDoorExpRef
import Derived.Test.YtkhakddecmgejaaDoorLawFrames
namespace Go.Proofs.YtkhakddecmgejaaDoor
open Go.RowKit
set_option linter.unusedVariables false
set_option linter.unusedSimpArgs false

def updm {α : Type} (f : Nat → α) (j : Nat) (x : α) : Nat → α := fun i => if i = j then x else f i
theorem updm_same {α : Type} (f : Nat → α) (j : Nat) (x : α) : updm f j x j = x := if_pos rfl
theorem updm_ne {α : Type} (f : Nat → α) {i j : Nat} (x : α) (h : i ≠ j) : updm f j x i = f i := if_neg h
def inM (n : Int) : Prop := -9223372036854775808 ≤ n ∧ n ≤ 9223372036854775807
theorem updm_self {α : Type} (f : Nat → α) (j : Nat) : updm f j (f j) = f := funext fun i => by unfold updm; split <;> simp_all

/-- k Macs in an array of three; ts: what each has taken -/
structure Macs (w : World) (base a : Nat) (ps bs : Nat → Nat) (ks ts : Nat → List UInt8) (k : Nat) : Prop where
  arr : Blk w a 59 (arr 3 fun i => if i < k then .pointer (some ⟨ps i, 0, none⟩) else .pointer none)
  each : ∀ i, i < k → IsMac w (ps i) (bs i) (ks i) (ts i)
  gp : ∀ i, i < k → base ≤ ps i ∧ base ≤ bs i
  ne : ∀ i j, i < k → j < k → bs i = bs j → i = j
  ge : base ≤ a
section
variable {S : Nat → Prop} {w w1 w' : World} {base a k r mm b : Nat} {ps bs : Nat → Nat} {ks ts : Nat → List UInt8} {t' : List UInt8}
theorem IsMac.hblk {key text : List UInt8} (h : IsMac w mm b key text) {g : Nat} {t : TypeId} {cs : Array Value} (hg : Blk w g t cs) (hne : 97 ≠ t) : b ≠ g := by
  obtain ⟨st, bl, h1, _⟩ := h.hash
  exact h1.ne_ hg hne
theorem IsMac.hown {key text : List UInt8} (h : IsMac w mm b key text) {base' e size n : Nat} {v : Value} {xs : List Value} (hg : w.ownsRow base' e size v n xs) (hne : e ≠ 97) : ¬ oB v b := by
  obtain ⟨st, bl, h1, _⟩ := h.hash
  exact h1.own_ne hg hne
theorem Macs.frm' (h : Macs w base a ps bs ks ts k) (hf : Frm noB w w') : Macs w' base a ps bs ks ts k :=
  ⟨h.arr.frm' hf, fun i hi => (h.each i hi).frm' hf, h.gp, h.ne, h.ge⟩
theorem Macs.frm (h : Macs w base a ps bs ks ts k) (hf : Frm S w w') (ha : ¬ S a) (hp : ∀ i, i < k → ¬ S (ps i) ∧ ¬ S (bs i)) : Macs w' base a ps bs ks ts k :=
  ⟨h.arr.frm hf ha, fun i hi => (h.each i hi).frm hf (hp i hi).1 (hp i hi).2, h.gp, h.ne, h.ge⟩
theorem Macs.at_ (h : Macs w base a ps bs ks ts 3) (hr : r < 3) : w.cell? ⟨a, r, none⟩ = some (.pointer (some ⟨ps r, 0, none⟩)) := by
  rw [h.arr.at_ hr, if_pos hr]
/-- a Mac has taken more -/
theorem Macs.step (h : Macs w base a ps bs ks ts 3) (hr : r < 3) (hM : IsMac w' (ps r) (bs r) (ks r) t') (hf : Frm (isB (bs r)) w w') : Macs w' base a ps bs ks (updm ts r t') 3 := by
  have hR := h.each r hr
  refine ⟨h.arr.frm hf fun e => hR.hblk h.arr (by decide) (Eq.symm e), fun i hi => ?_, h.gp, h.ne, h.ge⟩
  by_cases e : i = r
  · subst e; rw [updm_same]; exact hM
  · rw [updm_ne _ _ e]
    have hI := h.each i hi
    exact hI.frm hf (fun q => hR.hblk hI.blk (by decide) (Eq.symm q)) fun q => e (h.ne i r hi hr q)
/-- a new Mac is laid into the next place -/
theorem Macs.put (h : Macs w base a ps bs ks ts k) (hf : Frm noB w w1) (hM : IsMac w1 mm b (ks k) (ts k)) (hm : w.heap.size ≤ mm) (hb : w.heap.size ≤ b) (hw : base ≤ w.heap.size) :
    Macs (w1.setCell ⟨a, k, none⟩ (.pointer (some ⟨mm, 0, none⟩))) base a (updm ps k mm) (updm bs k b) ks ts (k + 1) := by
  have h1 := h.frm' hf
  have hs1 : Frm (fun q => q = a) w1 (w1.setCell ⟨a, k, none⟩ (.pointer (some ⟨mm, 0, none⟩))) := Frm.setCell (S := fun q => q = a) (Frm.refl _ _) (.inl rfl) _
  have keep : ∀ {p b : Nat} {key t : List UInt8}, IsMac w1 p b key t → IsMac (w1.setCell ⟨a, k, none⟩ (.pointer (some ⟨mm, 0, none⟩))) p b key t := fun hI =>
    hI.frm hs1 (fun e => hI.blk.ne_ h1.arr (by decide) e) (fun e => hI.hblk h1.arr (by decide) e)
  refine ⟨?_, fun i hi => ?_, fun i hi => ?_, fun i j hi hj e => ?_, h.ge⟩
  · refine (h1.arr.put k _).same fun i hi => ?_
    by_cases e : i = k
    · subst e; rw [if_pos rfl, if_pos (by omega), updm_same]
    · rw [if_neg e, updm_ne _ _ e]
      by_cases e2 : i < k
      · rw [if_pos e2, if_pos (by omega)]
      · rw [if_neg e2, if_neg (by omega)]
  · by_cases e : i = k
    · subst e; rw [updm_same, updm_same]; exact keep hM
    · rw [updm_ne _ _ e, updm_ne _ _ e]; exact keep (h1.each i (by omega))
  · by_cases e : i = k
    · subst e; rw [updm_same, updm_same]; omega
    · rw [updm_ne _ _ e, updm_ne _ _ e]; exact h.gp i (by omega)
  · by_cases ei : i = k
    · by_cases ej : j = k
      · omega
      · subst ei
        rw [updm_same, updm_ne _ _ ej] at e
        have := (h.each j (by omega)).lt; omega
    · by_cases ej : j = k
      · subst ej
        rw [updm_same, updm_ne _ _ ei] at e
        have := (h.each i (by omega)).lt; omega
      · rw [updm_ne _ _ ei, updm_ne _ _ ej] at e
        exact h.ne i j (by omega) (by omega) e
end

/-- three texts in rows of the call's own -/
structure Texts (w : World) (base tb : Nat) (vs : Nat → Value) (ts : Nat → List UInt8) : Prop where
  bl : Blk w tb 57 (arr 3 vs)
  each : ∀ i, i < 3 → w.ownsRow base 5 1 (vs i) (ts i).length ((ts i).map bv)
  apart : ∀ i j, i < 3 → j < 3 → i ≠ j → ∀ q, oB (vs i) q → ¬ oB (vs j) q
  ge : base ≤ tb
section
variable {S : Nat → Prop} {w w1 w' : World} {base tb r : Nat} {vs : Nat → Value} {ts : Nat → List UInt8} {t' : List UInt8} {v' : Value}
theorem Texts.frm' (h : Texts w base tb vs ts) (hf : Frm noB w w') : Texts w' base tb vs ts :=
  ⟨h.bl.frm' hf, fun i hi => own_frm' (h.each i hi) hf, h.apart, h.ge⟩
theorem Texts.frm (h : Texts w base tb vs ts) (hf : Frm S w w') (ht : ¬ S tb) (hv : ∀ i, i < 3 → ∀ q, oB (vs i) q → ¬ S q) : Texts w' base tb vs ts :=
  ⟨h.bl.frm hf ht, fun i hi => own_frm (h.each i hi) hf (hv i hi), h.apart, h.ge⟩
theorem Texts.mac (h : Texts w base tb vs ts) {mm b : Nat} {key t : List UInt8} (hM : IsMac w mm b key t) (hf : Frm (isB b) w w') : Texts w' base tb vs ts :=
  h.frm hf (fun e => hM.hblk h.bl (by decide) (Eq.symm e)) fun i hi q hq e => by
    have e : q = b := e
    subst e
    exact hM.hown (h.each i hi) (by decide) hq
theorem Texts.at_ (h : Texts w base tb vs ts) (hr : r < 3) : w.cell? ⟨tb, r, none⟩ = some (vs r) := h.bl.at_ hr
theorem Texts.new (w : World) (base : Nat) (ts : Nat → List UInt8) (ht : ∀ i, ts i = []) (hb : base ≤ w.heap.size) :
    Texts (w.alloc (.cells #[.slice none 0 0, .slice none 0 0, .slice none 0 0] 57)) base w.heap.size (fun _ => .slice none 0 0) ts :=
  ⟨Blk.new _ _ _, fun i hi => by rw [ht i]; exact World.ownsRow_nil _ _ _ _, fun i j _ _ _ q hq => by simp [oB, Value.ownBlock] at hq, hb⟩
/-- a text has become longer -/
theorem Texts.app (h : Texts w base tb vs ts) (hr : r < 3) (ho : w1.ownsRow base 5 1 v' t'.length (t'.map bv)) (hf : Frm (oB (vs r)) w w1) (hv : ∀ q, oB v' q → oB (vs r) q ∨ w.heap.size ≤ q) :
    Texts (w1.setCell ⟨tb, r, none⟩ v') base tb (updm vs r v') (updm ts r t') := by
  have ha1 : Blk w1 tb 57 (arr 3 vs) := h.bl.frm hf (h.bl.own_ne (h.each r hr) (by decide))
  have hs1 : Frm (fun q => q = tb) w1 (w1.setCell ⟨tb, r, none⟩ v') := Frm.setCell (S := fun q => q = tb) (Frm.refl _ _) (.inl rfl) _
  have keep : ∀ {v : Value} {n : Nat} {xs : List Value}, w1.ownsRow base 5 1 v n xs → (w1.setCell ⟨tb, r, none⟩ v').ownsRow base 5 1 v n xs := fun hI =>
    own_frm hI hs1 fun q hq e => by
      have e : q = tb := e
      subst e
      exact ha1.own_ne hI (by decide) hq
  have old : ∀ i, i < 3 → ∀ q, oB (vs i) q → q < w.heap.size := fun i hi q hq => (own_lt (h.each i hi) q hq).2
  refine ⟨(ha1.put r _).same fun i hi => ?_, fun i hi => ?_, fun i j hi hj hij q hq => ?_, h.ge⟩
  · by_cases e : i = r
    · subst e; rw [if_pos rfl, updm_same]
    · rw [if_neg e, updm_ne _ _ e]
  · by_cases e : i = r
    · subst e; rw [updm_same, updm_same]; exact keep ho
    · rw [updm_ne _ _ e, updm_ne _ _ e]
      exact keep (own_frm (h.each i hi) hf fun q hq => h.apart i r hi hr e q hq)
  · by_cases ei : i = r
    · by_cases ej : j = r
      · omega
      · subst ei
        rw [updm_same] at hq
        rw [updm_ne _ _ ej]
        rcases hv q hq with h' | h'
        · exact h.apart i j hi hj hij q h'
        · intro hk
          have := old j hj q hk
          omega
    · by_cases ej : j = r
      · subst ej
        rw [updm_same]
        rw [updm_ne _ _ ei] at hq
        intro hk
        rcases hv q hk with h' | h'
        · exact h.apart i j hi hj hij q hq h'
        · have := old i hi q hq
          omega
      · rw [updm_ne _ _ ei] at hq
        rw [updm_ne _ _ ej]
        exact h.apart i j hi hj hij q hq
theorem Texts.rowSet {base' size n g j : Nat} {v : Value} {xs : List Value} (h : Texts w base tb vs ts) (ho : w.ownsRow base' 5 size v n xs) (hg : oB v g) (hsep : ∀ i, i < 3 → ∀ q, oB (vs i) q → q < base') (u : Value) : Texts (w.setCell ⟨g, j, none⟩ u) base tb vs ts :=
  h.frm (S := fun q => q = g) (Frm.setCell (S := fun q => q = g) (Frm.refl _ _) (.inl rfl) _) (fun e => h.bl.own_ne ho (by decide) (by have e : tb = g := e; rw [e]; exact hg)) fun i hi q hq e => by
    have e : q = g := e
    have := hsep i hi q hq
    have := (own_lt ho g hg).1
    omega
theorem Macs.row {a k : Nat} {ps bs : Nat → Nat} {ks tt : Nat → List UInt8} (h : Macs w base a ps bs ks tt k) (hx : Texts w base tb vs ts) (hr : r < 3) (hf : Frm (oB (vs r)) w w1) : Macs w1 base a ps bs ks tt k :=
  h.frm hf (h.arr.own_ne (hx.each r hr) (by decide)) fun i hi => ⟨(h.each i hi).blk.own_ne (hx.each r hr) (by decide), (h.each i hi).hown (hx.each r hr) (by decide)⟩
theorem Macs.rowSet {a k base' size n g j : Nat} {v : Value} {xs : List Value} {ps bs : Nat → Nat} {ks tt : Nat → List UInt8} (h : Macs w base a ps bs ks tt k) (ho : w.ownsRow base' 5 size v n xs) (hg : oB v g) (u : Value) : Macs (w.setCell ⟨g, j, none⟩ u) base a ps bs ks tt k :=
  h.frm (S := fun q => q = g) (Frm.setCell (S := fun q => q = g) (Frm.refl _ _) (.inl rfl) _) (fun e => h.arr.own_ne ho (by decide) (by have e : a = g := e; rw [e]; exact hg)) fun i hi => ⟨fun e => (h.each i hi).blk.own_ne ho (by decide) (by have e : ps i = g := e; rw [e]; exact hg), fun e => (h.each i hi).hown ho (by decide) (by have e : bs i = g := e; rw [e]; exact hg)⟩
theorem Macs.setT {a k : Nat} {ps bs : Nat → Nat} {ks tt : Nat → List UInt8} {cs : Array Value} (h : Macs w base a ps bs ks tt k) (hx : Blk w tb 57 cs) (v : Value) : Macs (w.setCell ⟨tb, r, none⟩ v) base a ps bs ks tt k :=
  h.frm (S := fun q => q = tb) (Frm.setCell (S := fun q => q = tb) (Frm.refl _ _) (.inl rfl) _) (fun e => h.arr.ne_ hx (by decide) e) fun i hi => ⟨fun e => (h.each i hi).blk.ne_ hx (by decide) e, fun e => (h.each i hi).hblk hx (by decide) e⟩
end

/-- a step of a script -/
structure WOp where
  on : Int
  kind : Int
  b : List UInt8
/-- a list of steps reads so -/
def RdW (w : World) (A : Option Addr) (l : List WOp) : Prop :=
  ∀ i (h : i < l.length), ∃ b off A' c, A = some ⟨b, off, none⟩ ∧ w.cell? ⟨b, off + i * 3, none⟩ = some (.int .i64 l[i].on) ∧ w.cell? ⟨b, off + i * 3 + 1, none⟩ = some (.int .i64 l[i].kind) ∧ w.cell? ⟨b, off + i * 3 + 2, none⟩ = some (.slice A' l[i].b.length c) ∧
    inM l[i].on ∧ inM l[i].kind ∧ l[i].b.length ≤ c ∧ Rd w A' (l[i].b.map bv)
theorem RdW.frm' {w w' : World} {A : Option Addr} {l : List WOp} (h : RdW w A l) (hf : Frm noB w w') : RdW w' A l := by
  intro i hi
  obtain ⟨b, off, A', c, e, h0, h1, h2, b0, b1, hc, hr⟩ := h i hi
  exact ⟨b, off, A', c, e, hf.cell_some h0 (fun h => h), hf.cell_some h1 (fun h => h), hf.cell_some h2 (fun h => h), b0, b1, hc, hr.frm' hf⟩
/-- how many bytes the first k steps bring -/
def bringsW (l : List WOp) (k : Nat) : Nat := ((l.take k).map fun x => x.b.length).sum
theorem bringsW_succ (l : List WOp) {k : Nat} (h : k < l.length) : bringsW l (k + 1) = bringsW l k + l[k].b.length := by
  unfold bringsW
  rw [List.take_succ_eq_append_getElem h, List.map_append, List.sum_append]
  simp
theorem bringsW_le (l : List WOp) (k : Nat) : bringsW l k ≤ bringsW l l.length := by
  unfold bringsW
  rw [List.take_length]
  conv => rhs; rw [← List.take_append_drop k l, List.map_append, List.sum_append]
  omega
end Go.Proofs.YtkhakddecmgejaaDoor
