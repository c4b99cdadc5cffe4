/-
  EntryPlays: an entry and the document's beside it, in memory.
-/
import Derived.Test.YtjnoddbhfcpniaaSameB
namespace Go.Proofs.Ytjnoddbhfcpniaa
open Go.RowKit
open Go.BigFrame
set_option linter.unusedVariables false
set_option linter.unusedSimpArgs false

/-- where the parts lie -/
structure Ids where
  bb : Nat
  eb : Nat
  rb : Nat
  ab : Nat
  lb : Nat
  xb : Nat
def Ids.fv (I : Ids) : Value := .func (.func 42) #[] #[.pointer (some ⟨I.xb, 0, none⟩), .pointer (some ⟨I.lb, 0, none⟩)]
structure PrM (w : World) (I : Ids) (F G P : Nat → Prop) (s : ES) (t : RS) (m n : Int) : Prop where
  both : Blk w I.bb 65 #[.pointer (some ⟨I.eb, 0, none⟩), .pointer (some ⟨I.rb, 0, none⟩), .pointer (some ⟨I.ab, 0, none⟩), .int .i64 m]
  asked : Blk w I.ab 70 #[.int .i64 n]
  lbox : Blk w I.lb 55 #[.int .i64 t.z1, .int .i64 t.z2]
  abox : Blk w I.xb 63 #[.pointer (some ⟨I.ab, 0, none⟩)]
  ent : EntF w I.eb I.fv s F
  ref : EntR w I.rb t G
  fg : ∀ k, F k → ¬ G k
  fs : ∀ k, (F k ∨ G k) → k ≠ I.bb ∧ k ≠ I.ab ∧ k ≠ I.lb ∧ k ≠ I.xb
  p : ∀ k, (F k ∨ G k ∨ k = I.bb ∨ k = I.ab ∨ k = I.lb ∨ k = I.xb) → P k
  pl : ∀ k, P k → k < w.heap.size
/-- P, and what is new -/
def More (P : Nat → Prop) (w w' : World) : Nat → Prop := fun k => P k ∨ w.heap.size ≤ k ∧ k < w'.heap.size
section
variable {w w' : World} {I : Ids} {F G P F' G' S : Nat → Prop} {s s' : ES} {t t' : RS} {m n : Int}
theorem PrM.frm (h : PrM w I F G P s t m n) (hf : Frm S w w') (hS : ∀ k, P k → ¬ S k) : PrM w' I F G P s t m n :=
  ⟨h.both.frm hf (hS _ (h.p _ (by simp))), h.asked.frm hf (hS _ (h.p _ (by simp))), h.lbox.frm hf (hS _ (h.p _ (by simp))), h.abox.frm hf (hS _ (h.p _ (by simp))), h.ent.frm hf fun k hk => hS _ (h.p _ (.inl hk)), h.ref.frm hf fun k hk => hS _ (h.p _ (.inr (.inl hk))), h.fg, h.fs, h.p, fun k hk => Nat.lt_of_lt_of_le (h.pl k hk) hf.size⟩
theorem PrM.frm' (h : PrM w I F G P s t m n) (hf : Frm noB w w') : PrM w' I F G P s t m n := h.frm hf fun _ _ h => h
theorem PrM.more (h : PrM w I F G P s t m n) {Q : Nat → Prop} (hQ : ∀ k, P k → Q k) (hl : ∀ k, Q k → k < w.heap.size) : PrM w I F G Q s t m n :=
  ⟨h.both, h.asked, h.lbox, h.abox, h.ent, h.ref, h.fg, h.fs, fun k hk => hQ k (h.p k hk), hl⟩
/-- the entry has taken a step -/
theorem PrM.entry (h : PrM w I F G P s t m n) (hE : EntF w' I.eb I.fv s' F') (hf : Frm F w w') (hg : Grow F F' w w') : PrM w' I F' G (More P w w') s' t m n := by
  have sz := hf.size
  have hs := fun k hk => h.fs k (.inl hk)
  have lt := fun k hk => h.pl k (h.p k hk)
  refine ⟨h.both.frm hf fun hk => (hs _ hk).1 rfl, h.asked.frm hf fun hk => (hs _ hk).2.1 rfl, h.lbox.frm hf fun hk => (hs _ hk).2.2.1 rfl, h.abox.frm hf fun hk => (hs _ hk).2.2.2 rfl, hE, h.ref.frm hf fun k hk hk' => h.fg k hk' hk, fun k hk hk' => ?_, fun k hk => ?_, fun k hk => ?_, fun k hk => ?_⟩
  · rcases hg k hk with h1 | h1
    · exact h.fg k h1 hk'
    · have := lt k (.inr (.inl hk')); omega
  · rcases hk with hk | hk
    · rcases hg k hk with h1 | h1
      · exact h.fs k (.inl h1)
      · have l1 := lt I.bb (by simp); have l2 := lt I.ab (by simp); have l3 := lt I.lb (by simp); have l4 := lt I.xb (by simp)
        refine ⟨?_, ?_, ?_, ?_⟩ <;> omega
    · exact h.fs k (.inr hk)
  · rcases hk with hk | hk
    · rcases hg k hk with h1 | h1
      · exact .inl (h.p k (.inl h1))
      · exact .inr h1
    · exact .inl (h.p k (.inr hk))
  · rcases hk with hk | hk
    · have := h.pl k hk; omega
    · exact hk.2
/-- the document's entry has taken a step -/
theorem PrM.refe (h : PrM w I F G P s t m n) (hE : EntR w' I.rb t' G') (hz : t'.z1 = t.z1 ∧ t'.z2 = t.z2) (hf : Frm G w w') (hg : Grow G G' w w') : PrM w' I F G' (More P w w') s t' m n := by
  have sz := hf.size
  have hs := fun k hk => h.fs k (.inr hk)
  have lt := fun k hk => h.pl k (h.p k hk)
  have hl := h.lbox.frm hf fun hk => (hs _ hk).2.2.1 rfl
  rw [← hz.1, ← hz.2] at hl
  refine ⟨h.both.frm hf fun hk => (hs _ hk).1 rfl, h.asked.frm hf fun hk => (hs _ hk).2.1 rfl, hl, h.abox.frm hf fun hk => (hs _ hk).2.2.2 rfl, h.ent.frm hf fun k hk hk' => h.fg k hk hk', hE, fun k hk hk' => ?_, fun k hk => ?_, fun k hk => ?_, fun k hk => ?_⟩
  · rcases hg k hk' with h1 | h1
    · exact h.fg k hk h1
    · have := lt k (.inl hk); omega
  · rcases hk with hk | hk
    · exact h.fs k (.inl hk)
    · rcases hg k hk with h1 | h1
      · exact h.fs k (.inr h1)
      · have l1 := lt I.bb (by simp); have l2 := lt I.ab (by simp); have l3 := lt I.lb (by simp); have l4 := lt I.xb (by simp)
        refine ⟨?_, ?_, ?_, ?_⟩ <;> omega
  · rcases hk with hk | hk | hk
    · exact .inl (h.p k (.inl hk))
    · rcases hg k hk with h1 | h1
      · exact .inl (h.p k (.inr (.inl h1)))
      · exact .inr h1
    · exact .inl (h.p k (.inr (.inr hk)))
  · rcases hk with hk | hk
    · have := h.pl k hk; omega
    · exact hk.2
theorem More.more {w1 w2 : World} (h1 : w.heap.size ≤ w1.heap.size) (h2 : w1.heap.size ≤ w2.heap.size) : ∀ k, More (More P w w1) w1 w2 k → More P w w2 k := fun k hk => by
  rcases hk with (hk | hk) | hk
  · exact .inl hk
  · exact .inr ⟨hk.1, by omega⟩
  · exact .inr ⟨by omega, hk.2⟩
theorem More.up {w1 w2 : World} (h2 : w1.heap.size ≤ w2.heap.size) : ∀ k, More P w w1 k → More P w w2 k := fun k hk => by
  rcases hk with hk | hk
  · exact .inl hk
  · exact .inr ⟨hk.1, by omega⟩
/-- a step is taken: both stand as they must -/
def StepTo (w : World) (I : Ids) (P : Nat → Prop) (B : Nat) (w' : World) : Prop := ∃ F G s t m, PrM w' I F G (More P w w') s t m m ∧ Rel s t ∧ RB t B ∧ Frm P w w'
end
end Go.Proofs.Ytjnoddbhfcpniaa
