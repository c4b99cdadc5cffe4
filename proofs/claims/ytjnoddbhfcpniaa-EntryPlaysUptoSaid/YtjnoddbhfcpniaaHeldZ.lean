/-
  A region that draws its order, whose last operations hit a cell that was loaded: what holds (S1) throughout, and what holds (S0) until one of the operations Z has come up.
-/
import Derived.Test.YtjnoddbhfcpniaaRefTick
namespace Go.Proofs.Ytjnoddbhfcpniaa
open Go.RowKit
set_option linter.unusedVariables false
set_option linter.unusedSimpArgs false

section
variable {P : Program} {ops : Array Oper} {Q : Exit → Act → World → Prop} {md : Region.Mode} {S1 S0 : World → Prop} {Z : List Nat}
def someZ (Z : List Nat) (listed : Array Bool) : Bool := Z.any fun z => listed.getD z false
def SZ (S1 S0 : World → Prop) (Z : List Nat) (listed : Array Bool) (w : World) : Prop := S1 w ∧ (someZ Z listed = true ∨ S0 w)
def wpAnyZ (P : Program) (md : Region.Mode) (ops : Array Oper) (Q : Exit → Act → World → Prop) (S1 S0 : World → Prop) (Z : List Nat) : Nat → Array Bool → Act → World → Prop
  | 0, listed, a, w => Region.ready md ops listed = [] ∧ Q .normal a w
  | fuel + 1, listed, a, w =>
    (Region.ready md ops listed = [] → Q .normal a w) ∧
    ∀ i ∈ Region.ready md ops listed, wpOp P ops Q i (fun a' w' => SZ S1 S0 Z (listed.setIfInBounds i true) w' ∧ wpAnyZ P md ops Q S1 S0 Z fuel (listed.setIfInBounds i true) a' w') a w
theorem wpAny_ofZ : ∀ (fuel : Nat) (listed : Array Bool) (a : Act) (w : World), wpAnyZ P md ops Q S1 S0 Z fuel listed a w → wpAny P md ops Q fuel listed a w
  | 0, _, _, _, h => h
  | fuel + 1, _, _, _, h => ⟨h.1, fun i hi => wpOp_mono (fun a' w' h' => wpAny_ofZ fuel _ a' w' h'.2) (h.2 i hi)⟩
theorem someZ_set {i : Nat} (hi : i ∉ Z) (listed : Array Bool) : someZ Z (listed.setIfInBounds i true) = someZ Z listed := by
  unfold someZ
  rw [Bool.eq_iff_iff, List.any_eq_true, List.any_eq_true]
  constructor
  · rintro ⟨z, hz, h⟩
    rw [getD_set_ne false (show i ≠ z from fun e => hi (by rw [e]; exact hz))] at h
    exact ⟨z, hz, h⟩
  · rintro ⟨z, hz, h⟩
    exact ⟨z, hz, by rw [getD_set_ne false (show i ≠ z from fun e => hi (by rw [e]; exact hz))]; exact h⟩
theorem SZ.set {i : Nat} (hi : i ∉ Z) {listed : Array Bool} {w : World} : SZ S1 S0 Z (listed.setIfInBounds i true) w ↔ SZ S1 S0 Z listed w := by
  unfold SZ
  rw [someZ_set hi]
theorem wpAnyZ_firstP {i : Nat} {oi : Oper} {v : Value} (hi : ops[i]? = some oi) (hiZ : i ∉ Z) (hsel : ∀ (j : Nat) (o : Oper) cs b, ops[j]? = some o → o.op ≠ .select cs b)
    (hQ : ∀ c a w, Q (.panic c) (a.put oi.dst v) w → Q (.panic c) a w) :
    ∀ (fuel : Nat) (listed : Array Bool) (a : Act) (w : World),
      (∀ j oj, ops[j]? = some oj → j ≠ i → listed.getD j true = false → (∀ e ∈ oj.after, Region.binds md e = true → e.on ≠ i) → oi.apart ops oj = true) →
      i ∈ Region.ready md ops listed → YieldsIf P ops S1 oi v a → SZ S1 S0 Z listed w →
      wpAnyZ P md ops Q S1 S0 Z fuel (listed.setIfInBounds i true) (a.put oi.dst v) w → wpAnyZ P md ops Q S1 S0 Z (fuel + 1) listed a w := by
  intro fuel
  induction fuel with
  | zero =>
    intro listed a w _ hr hy hS H
    refine ⟨fun h => (by rw [h] at hr; cases hr), fun j hj => ?_⟩
    by_cases hji : j = i
    · subst hji; exact hy.wpOp hi hS.1 ⟨(SZ.set hiZ).2 hS, H⟩
    · have := ready_mono hj hji
      rw [H.1] at this
      cases this
  | succ fuel ih =>
    intro listed a w hfree hr hy hS H
    refine ⟨fun h => (by rw [h] at hr; cases hr), fun j hj => ?_⟩
    by_cases hji : j = i
    · subst hji; exact hy.wpOp hi hS.1 ⟨(SZ.set hiZ).2 hS, H⟩
    · have h1 := H.2 j (ready_mono hj hji)
      obtain ⟨hjun, oj, hoj, hall⟩ := mem_ready.1 hj
      have hnot : ∀ e ∈ oj.after, Region.binds md e = true → e.on ≠ i := fun e he hb heq => by
        have h1 := hall e he hb
        have h0 := (mem_ready.1 hr).1
        rw [heq] at h1
        rcases Nat.lt_or_ge i listed.size with h' | h'
        · simp [h'] at h0 h1; rw [h0] at h1; cases h1
        · simp [Array.getElem?_eq_none h'] at h1
      have h2 := wpOp_putIf hoj (hfree j oj hoj hji hjun hnot) (fun cs b => hsel i oi cs b hi) (fun cs b => hsel j oj cs b hoj) hQ hy h1
      have hfree' : ∀ k ok, ops[k]? = some ok → k ≠ i → (listed.setIfInBounds j true).getD k true = false →
          (∀ e ∈ ok.after, Region.binds md e = true → e.on ≠ i) → oi.apart ops ok = true := fun k ok hk hki hun hno => by
        refine hfree k ok hk hki ?_ hno
        by_cases hjk : j = k
        · subst hjk; exact hjun
        · rw [getD_set_ne true hjk] at hun; exact hun
      refine wpOp_mono (fun a' w' h3 => ?_) h2
      have hS' : SZ S1 S0 Z (listed.setIfInBounds j true) w' := by
        have := h3.2.1
        rw [Array.setIfInBounds_comm _ _ (Ne.symm hji)] at this
        exact (SZ.set hiZ).1 this
      refine ⟨hS', ih (listed.setIfInBounds j true) a' w' hfree' (ready_mono hr (Ne.symm hji)) h3.1 hS' ?_⟩
      rw [Array.setIfInBounds_comm _ _ hji]
      exact h3.2.2
theorem wpAnyZ_firstS {i : Nat} {oi : Oper} {v : Value} (hi : ops[i]? = some oi) (hiZ : i ∉ Z) (hZ : ∀ z ∈ Z, ∃ oz, ops[z]? = some oz ∧ ∃ e ∈ oz.after, Region.binds md e = true ∧ (e.on = i ∨ e.on ∈ Z))
    (hsel : ∀ (j : Nat) (o : Oper) cs b, ops[j]? = some o → o.op ≠ .select cs b)
    (hQ : ∀ c a w, Q (.panic c) (a.put oi.dst v) w → Q (.panic c) a w) :
    ∀ (fuel : Nat) (listed : Array Bool) (a : Act) (w : World),
      (∀ j oj, ops[j]? = some oj → j ≠ i → listed.getD j true = false → (∀ e ∈ oj.after, Region.binds md e = true → e.on ≠ i) → oi.apart ops oj = true) →
      i ∈ Region.ready md ops listed → someZ Z listed = false → YieldsIf P ops (fun w => S1 w ∧ S0 w) oi v a → S1 w ∧ S0 w →
      wpAnyZ P md ops Q S1 S0 Z fuel (listed.setIfInBounds i true) (a.put oi.dst v) w → wpAnyZ P md ops Q S1 S0 Z (fuel + 1) listed a w := by
  intro fuel
  induction fuel with
  | zero =>
    intro listed a w _ hr hz hy hS H
    refine ⟨fun h => (by rw [h] at hr; cases hr), fun j hj => ?_⟩
    by_cases hji : j = i
    · subst hji; exact hy.wpOp hi hS ⟨⟨hS.1, .inr hS.2⟩, H⟩
    · have := ready_mono hj hji
      rw [H.1] at this
      cases this
  | succ fuel ih =>
    intro listed a w hfree hr hz hy hS H
    refine ⟨fun h => (by rw [h] at hr; cases hr), fun j hj => ?_⟩
    by_cases hji : j = i
    · subst hji; exact hy.wpOp hi hS ⟨⟨hS.1, .inr hS.2⟩, H⟩
    · have h1 := H.2 j (ready_mono hj hji)
      obtain ⟨hjun, oj, hoj, hall⟩ := mem_ready.1 hj
      have iun : listed.getD i false ≠ true := fun h1 => by
        have h0 := (mem_ready.1 hr).1
        rcases Nat.lt_or_ge i listed.size with h' | h'
        · simp [h'] at h0 h1; rw [h0] at h1; cases h1
        · simp [Array.getElem?_eq_none h'] at h1
      have hnot : ∀ e ∈ oj.after, Region.binds md e = true → e.on ≠ i := fun e he hb heq => by
        have h1 := hall e he hb
        rw [heq] at h1
        exact iun h1
      have hjZ : j ∉ Z := fun hj => by
        obtain ⟨oz, h1, e, he, hb, h2⟩ := hZ j hj
        rw [hoj] at h1
        injection h1 with h1
        subst h1
        have h3 := hall e he hb
        rcases h2 with h2 | h2
        · rw [h2] at h3; exact iun h3
        · have : someZ Z listed = true := List.any_eq_true.2 ⟨_, h2, h3⟩
          rw [hz] at this; cases this
      have h2 := wpOp_putIf hoj (hfree j oj hoj hji hjun hnot) (fun cs b => hsel i oi cs b hi) (fun cs b => hsel j oj cs b hoj) hQ hy h1
      have hfree' : ∀ k ok, ops[k]? = some ok → k ≠ i → (listed.setIfInBounds j true).getD k true = false →
          (∀ e ∈ ok.after, Region.binds md e = true → e.on ≠ i) → oi.apart ops ok = true := fun k ok hk hki hun hno => by
        refine hfree k ok hk hki ?_ hno
        by_cases hjk : j = k
        · subst hjk; exact hjun
        · rw [getD_set_ne true hjk] at hun; exact hun
      refine wpOp_mono (fun a' w' h3 => ?_) h2
      have hz' : someZ Z (listed.setIfInBounds j true) = false := by rw [someZ_set hjZ]; exact hz
      have hS' : S1 w' ∧ S0 w' := by
        obtain ⟨h4, h5⟩ := h3.2.1
        refine ⟨h4, h5.resolve_left fun h => ?_⟩
        rw [someZ_set hjZ, someZ_set hiZ, hz] at h
        cases h
      refine ⟨⟨hS'.1, .inr hS'.2⟩, ih (listed.setIfInBounds j true) a' w' hfree' (ready_mono hr (Ne.symm hji)) hz' h3.1 hS' ?_⟩
      rw [Array.setIfInBounds_comm _ _ hji]
      exact h3.2.2
/-- number i is no one of Z -/
def outZ (Z : List Nat) (i : Nat) : Bool := !Z.contains i
/-- each of Z waits for i, or for another of Z -/
def waitZ (md : Region.Mode) (ops : Array Oper) (Z : List Nat) (i : Nat) : Bool := Z.all fun z => match ops[z]? with
  | some oz => oz.after.any fun e => Region.binds md e && (e.on == i || Z.contains e.on)
  | none => false
theorem takeP {i : Nat} {d : Option Tmp} {op : Op} {ty : TypeId} {pos : String} {af : Array Edge} {gd : Option (Nat × Bool)} (v : Value) {fuel : Nat} {listed : Array Bool} {a : Act} {w : World} (hi : ops[i]? = some ⟨d, op, ty, pos, af, gd⟩)
    (hz : outZ Z i = true) (hs : Region.noSelect ops = true) (hf : Region.free md ops listed i = true) (hr : (Region.ready md ops listed).contains i = true)
    (hQ : ∀ c a w, Q (.panic c) (a.put d v) w → Q (.panic c) a w) (hy : YieldsIf P ops S1 ⟨d, op, ty, pos, af, gd⟩ v a) (hS : SZ S1 S0 Z listed w)
    (h : wpAnyZ P md ops Q S1 S0 Z fuel (listed.setIfInBounds i true) (a.put d v) w) : wpAnyZ P md ops Q S1 S0 Z (fuel + 1) listed a w :=
  wpAnyZ_firstP hi (by simpa [outZ] using hz) (Region.noSelect_spec hs) hQ fuel listed a w (Region.free_spec hi hf) (by simpa using hr) hy hS h
theorem takeS {i : Nat} {d : Option Tmp} {op : Op} {ty : TypeId} {pos : String} {af : Array Edge} {gd : Option (Nat × Bool)} (v : Value) {fuel : Nat} {listed : Array Bool} {a : Act} {w : World} (hi : ops[i]? = some ⟨d, op, ty, pos, af, gd⟩)
    (hz : outZ Z i = true) (hw : waitZ md ops Z i = true) (hn : someZ Z listed = false) (hs : Region.noSelect ops = true) (hf : Region.free md ops listed i = true) (hr : (Region.ready md ops listed).contains i = true)
    (hQ : ∀ c a w, Q (.panic c) (a.put d v) w → Q (.panic c) a w) (hy : YieldsIf P ops (fun w => S1 w ∧ S0 w) ⟨d, op, ty, pos, af, gd⟩ v a) (hS : S1 w ∧ S0 w)
    (h : wpAnyZ P md ops Q S1 S0 Z fuel (listed.setIfInBounds i true) (a.put d v) w) : wpAnyZ P md ops Q S1 S0 Z (fuel + 1) listed a w :=
  wpAnyZ_firstS hi (by simpa [outZ] using hz) (fun z hz => by
    have := List.all_eq_true.1 hw z hz
    rcases hoz : ops[z]? with _ | oz
    · rw [hoz] at this; cases this
    · rw [hoz] at this
      obtain ⟨e, he, h2⟩ := Array.any_eq_true'.1 this
      simp only [Bool.and_eq_true, Bool.or_eq_true, beq_iff_eq, List.contains_iff_mem] at h2
      exact ⟨oz, rfl, e, he, h2.1, h2.2⟩) (Region.noSelect_spec hs) hQ fuel listed a w (Region.free_spec hi hf) (by simpa using hr) hn hy hS h
theorem consZ {fuel : Nat} {listed : Array Bool} {a : Act} {w : World} {i : Nat} {d : Option Tmp} {op : Op} {ty : TypeId} {pos : String} {af : Array Edge} {gd : Option (Nat × Bool)} (hi : ops[i]? = some ⟨d, op, ty, pos, af, gd⟩)
    (hr : Region.ready md ops listed = [i])
    (h : ∀ K' : Act → World → Prop, Shut (∀ a w, SZ S1 S0 Z (listed.setIfInBounds i true) w → (SZ S1 S0 Z (listed.setIfInBounds i true) w → wpAnyZ P md ops Q S1 S0 Z fuel (listed.setIfInBounds i true) a w) → K' a w) → if Region.wanted ⟨d, op, ty, pos, af, gd⟩ (yielded ops a.tmps) = true then Oper.wp P ⟨d, op, ty, pos, af, gd⟩ a w K' Q else K' (a.put d undef) w) :
    wpAnyZ P md ops Q S1 S0 Z (fuel + 1) listed a w := by
  refine ⟨fun h0 => (by rw [h0] at hr; cases hr), fun j hj => ?_⟩
  rw [hr] at hj
  obtain rfl : j = i := by simpa using hj
  exact wpOp_step hi (fun K' hK => h K' (fun a w hS hW => hK a w ⟨hS, hW hS⟩))
theorem doneZ {listed : Array Bool} {a : Act} {w : World} (hr : Region.ready md ops listed = []) (h : Q .normal a w) : ∀ fuel, wpAnyZ P md ops Q S1 S0 Z fuel listed a w
  | 0 => ⟨hr, h⟩
  | _ + 1 => ⟨fun _ => h, by rw [hr]; simp⟩
theorem beginZ (S1 S0 : World → Prop) (Z : List Nat) {id : Nat} {a : Act} {w : World} (hm : P.follows .mixedOrders = true)
    (h : wpAnyZ P .any ops Q S1 S0 Z ops.size (Array.replicate ops.size false) a w.drew) : (Code.region id ops true).wp P Q a w := wp_region_any hm (wpAny_ofZ _ _ _ _ h)
end
end Go.Proofs.Ytjnoddbhfcpniaa
